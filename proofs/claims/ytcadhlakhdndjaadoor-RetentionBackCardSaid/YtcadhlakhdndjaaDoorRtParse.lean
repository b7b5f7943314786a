/- Archives of a text, both ways. No statement of the seat is proved here. -/
import Derived.Test.YtcadhlakhdndjaaDoorRtProg
import Derived.Test.YtcadhlakhdndjaaDoorRtSplit2
import Derived.Test.YtcadhlakhdndjaaDoorLdTog
import Derived.Test.YtcadhlakhdndjaaDoorSpSeq
import Derived.Test.YtcadhlakhdndjaaDoorSxH
set_option linter.unusedSimpArgs false
set_option linter.unusedVariables false
namespace Go.Proofs.YtcadhlakhdndjaaDoor
open Go Go.Sx

def rtStep (st : List Rung × Bool) (p : List UInt8) : Option (List Rung × Bool) :=
  if (rtRung p).2.2 = 0 then some (st.1 ++ [((rtRung p).1, (rtRung p).2.1)], st.2) else if (rtRung p).2.2 = 3 then some (st.1, true) else none

def rtGo : List (List UInt8) → List Rung × Bool → Option (List Rung × Bool)
  | [], st => some st
  | p :: ps, st => (rtStep st p).bind (rtGo ps)

theorem rtGo_app : ∀ (a b : List (List UInt8)) (st : List Rung × Bool), rtGo (a ++ b) st = (rtGo a st).bind (rtGo b)
  | [], b, st => rfl
  | p :: a, b, st => by
    simp only [List.cons_append, rtGo]
    cases rtStep st p with
    | none => rfl
    | some x => exact rtGo_app a b x

/-- Archives of a text; how it fails. -/
def rtParse (l : List UInt8) : List Rung × Int := match rtGo (partsB 44 l) ([], false) with
  | none => ([], 7)
  | some (r, far) => if far then ([], 3) else if 4 < r.length then ([], 11) else if togB r then (r, 0) else ([], 1)

/-- Behind so many parts. -/
def goAt (ps : List (List UInt8)) (j : Nat) : Option (List Rung × Bool) := rtGo (ps.take j) ([], false)

def stAt (ps : List (List UInt8)) (j : Nat) : List Rung × Bool := (goAt ps j).getD ([], false)

theorem goAt_succ {ps : List (List UInt8)} {j : Nat} {p : List UInt8} (hp : ps[j]? = some p) (h : (goAt ps j).isSome = true) : goAt ps (j + 1) = rtStep (stAt ps j) p := by
  unfold goAt stAt at *
  rw [List.take_add_one, hp, Option.toList_some, rtGo_app]
  obtain ⟨x, hx⟩ := Option.isSome_iff_exists.1 h
  rw [goAt, hx]
  show rtGo [p] x = _
  simp only [rtGo, Option.getD_some]
  cases rtStep x p <;> rfl

theorem goAt_len {ps : List (List UInt8)} : ∀ (j : Nat), (stAt ps j).1.length ≤ j
  | 0 => by simp [stAt, goAt, rtGo]
  | j + 1 => by
    have ih := goAt_len (ps := ps) j
    cases hp : ps[j]? with
    | none =>
      have e : goAt ps (j + 1) = goAt ps j := by unfold goAt; rw [List.take_add_one, hp, Option.toList_none, List.append_nil]
      unfold stAt at ih ⊢
      rw [e]; omega
    | some p =>
      cases hg : (goAt ps j).isSome with
      | true =>
        have e := goAt_succ hp hg
        unfold stAt at ih ⊢
        rw [e]
        unfold rtStep
        split
        · simp [stAt]; omega
        · split
          · simp [stAt]; omega
          · simp
      | false =>
        have e : goAt ps (j + 1) = none := by
          unfold goAt at *
          rw [List.take_add_one, rtGo_app]
          cases h : rtGo (ps.take j) ([], false) with
          | none => rfl
          | some x => rw [h] at hg; cases hg
        unfold stAt
        rw [e]; simp

theorem goAt_none {ps : List (List UInt8)} {j : Nat} (h : goAt ps j = none) : rtGo ps ([], false) = none := by
  have e : ps = ps.take j ++ ps.drop j := (List.take_append_drop j ps).symm
  rw [e, rtGo_app]
  unfold goAt at h
  rw [h]; rfl

theorem goAt_all (ps : List (List UInt8)) : goAt ps ps.length = rtGo ps ([], false) := by unfold goAt; rw [List.take_length]

theorem rowS_get (x : ByteArray) : (rowS x)[0]? = some (.v (.string x)) := rfl

theorem parts_sum (c : UInt8) : ∀ l : List UInt8, (partsB c l).length ≤ l.length + 1 ∧ ∀ p ∈ partsB c l, p.length ≤ l.length
  | [] => by simp [partsB]
  | b :: l => by
    have ih := parts_sum c l
    simp only [partsB]
    by_cases hb : b = c
    · rw [if_pos hb]
      refine ⟨by simp; omega, fun p hp => ?_⟩
      rcases List.mem_cons.1 hp with rfl | hp
      · simp
      · have := ih.2 p hp; simp; omega
    · rw [if_neg hb]
      generalize partsB c l = ps at *
      cases ps with
      | nil => simp
      | cons q ps =>
        simp only [List.length_cons] at ih ⊢
        refine ⟨by omega, fun p hp => ?_⟩
        rcases List.mem_cons.1 hp with rfl | hp
        · have := ih.2 q (by simp); simp; omega
        · have := ih.2 p (by simp [hp]); omega

theorem f_retention_Parse (s : ByteArray) (hs : s.size ≤ 1000000) : Meets Tryd.prog E0 n_retention_Parse [Str s] [] (.tp [slL (rtParse s.data.toList).1, I (rtParse s.data.toList).2]) [] := by
  refine m_retention_Parse (by simp) (shut0 rfl) (shut0 rfl) (by simp) (by simp [keysOf]) ?_
  simp only [go_sem, s_retention_Parse, ↓reduceIte, Nat.reduceEqDiff, Nat.reduceAdd, Nat.reduceLeDiff, reduceCtorEq, Nat.reduceLT, Int.reduceLT, Int.reduceLE, Int.reduceEq, Int.reduceToNat, Nat.reduceMul]
  refine Cl_io [] false (f_SplitSeq 300 301 302 (by omega) (by omega) (by omega) s (bs [44])) (Wks.refl _) (by simp [keysOf]) (by simp [keysOf, stoOf]) (by simp) (by simp) (by simp [keysOf]) ?_
  simp only [go_sem, froze, ↓reduceIte, Nat.reduceEqDiff, Nat.reduceAdd, Nat.reduceLeDiff, reduceCtorEq, Nat.reduceLT, Int.reduceLT, Int.reduceLE, Int.reduceEq, Int.reduceToNat, Nat.reduceMul]
  have hpar : rtParse s.data.toList = match rtGo (partsB 44 s.data.toList) ([], false) with
    | none => ([], 7)
    | some (r, far) => if far then ([], 3) else if 4 < r.length then ([], 11) else if togB r then (r, 0) else ([], 1) := rfl
  have hpl := parts_sum 44 s.data.toList
  rw [ba_len] at hpl
  have hi := iter_parts 44 s (by omega)
  generalize partsB 44 s.data.toList = ps at *
  refine W_rng (i0 := 300) (i1 := 301) (i2 := 302) (s0 := s) (v1 := .string (bs [44])) (v2 := .int .i64 0) (xs := ps.map fun l => .string ⟨l.toArray⟩) (fun j => j ≤ ps.length ∧ (goAt ps j).isSome = true)
    (fun j => [(2, .ptr 100 0), (3, .ptr 101 0), (4, .ptr 102 0), (5, .ptr 103 0), (10, .fn n_strings_splitSeq_1 [] [.ptr 301 0, .ptr 300 0, .ptr 302 0])])
    (fun j => [(301, .box [Str (bs [44])]), (302, .box [I 0]), (100, .box [.t (.v (.slice none 0 0))]), (101, .box [I 0]), (102, .box [.own 999 2 0 (stAt ps j).1.length (!(stAt ps j).1.isEmpty)]), (103, .box [Bo (stAt ps j).2]), (999, .row 2 (!(stAt ps j).1.isEmpty) ((stAt ps j).1.map slT))])
    hi (enters_of Tryd.func44 (by kernel_rfl) rfl) rfl rfl ?_ ⟨Nat.zero_le _, rfl⟩ ?_ (fun j _ => ⟨rfl, rfl, rfl⟩) (by decide) (by decide) ?_ ?_
  · intro x hx
    obtain ⟨l, _, rfl⟩ := List.mem_map.1 hx
    rfl
  · simp only [show stAt ps 0 = ([], false) from rfl, List.map_nil, List.length_nil, List.isEmpty_nil, Bool.not_true]
    exact (subL [(999, 888)] [] (by simp [envS, go_sem, wkV, wkL, AV.ids, idsL, keysOf, ren, stoOf, slTrees, AV.asOwn, rowPart, AV.isNil, rowS] <;> assumption) (by simp [stoS, go_sem, wkV, wkL, wkO, AV.ids, Ob.ids, idsL, keysOf, ren, AV.one, stoOf, slTrees, AV.asOwn, rowPart, AV.isNil, rowS] <;> assumption) (by simp [keysOf, ren]) (by simp [stoOf, keysOf, ren]) (by simp [keysOf, ren]) (by simp [keysOf, ren]))
  · rintro j x r ⟨hj, hok⟩ hx
    rw [List.getElem?_map] at hx
    obtain ⟨q, hq, rfl⟩ := Option.map_eq_some_iff.1 hx
    have hjlt := (List.getElem?_eq_some_iff.1 hq).1
    have hr : Meets Tryd.prog E0 n_retention_rung [Str ⟨q.toArray⟩] [] (.tp [.ag [I (rtRung q).1, I (rtRung q).2.1], I (rtRung q).2.2]) [] := f_retention_rung ⟨q.toArray⟩ (by have := hpl.2 q (List.mem_of_getElem? hq); show q.length ≤ _; omega)
    have hb := rtRung_le q
    have hs1 := goAt_succ hq hok
    have hl := goAt_len (ps := ps) j
    unfold rtStep at hs1
    have hst : ∀ y, goAt ps (j + 1) = some y → stAt ps (j + 1) = y := fun y h => by unfold stAt; rw [h]; rfl
    have hnone : goAt ps (j + 1) = none → rtGo ps ([], false) = none := goAt_none
    generalize rtRung q = R at *
    obtain ⟨a, b, e⟩ := R
    simp only at hb hs1 hr
    generalize hX : stAt ps j = X at *
    obtain ⟨l, far⟩ := X
    simp only at hl
    simp only [go_sem, hX, ↓reduceIte, Nat.reduceEqDiff, Nat.reduceAdd, Nat.reduceLeDiff, reduceCtorEq, Nat.reduceLT, Int.reduceLT, Int.reduceLE, Int.reduceEq, Int.reduceToNat, Nat.reduceMul]
    refine Cl_plain hr ?_
    rcases hb.2.2 with rfl | rfl | rfl
    · rw [if_pos rfl] at hs1
      have b4 : (l.length + 1) * 16 ≤ 2 ^ 47 := by omega
      have b5 : l.length + 1 < 2 ^ 47 := by omega
      have em : l.map slT ++ [[.v (.int .i64 a), .v (.int .i64 b)]] = (l ++ [(a, b)]).map slT := by simp [slT]
      have hlen : (l.map slT).length = l.length := by simp
      simp only [go_sem, b4, b5, em, hlen, ↓reduceIte, Nat.reduceEqDiff, Nat.reduceAdd, Nat.reduceLeDiff, reduceCtorEq, Nat.reduceLT, Int.reduceLT, Int.reduceLE, Int.reduceEq, Int.reduceToNat, Nat.reduceMul]
      refine rg_of ⟨hjlt, by rw [hs1]; rfl⟩ ?_
      simp only [hst _ hs1, hX, List.length_append, List.length_cons, List.length_nil, Nat.zero_add, show (l ++ [(a, b)]).isEmpty = false from by simp, Bool.not_false]
      exact (subL [(999, 122)] [] (by simp [envS, go_sem, wkV, wkL, AV.ids, idsL, keysOf, ren, stoOf, slTrees, AV.asOwn, rowPart, AV.isNil, rowS] <;> assumption) (by simp [stoS, go_sem, wkV, wkL, wkO, AV.ids, Ob.ids, idsL, keysOf, ren, AV.one, stoOf, slTrees, AV.asOwn, rowPart, AV.isNil, rowS] <;> assumption) (by simp [keysOf, ren]) (by simp [stoOf, keysOf, ren]) (by simp [keysOf, ren]) (by simp [keysOf, ren]))
    · rw [if_neg (by decide), if_pos rfl] at hs1
      simp only [go_sem, ↓reduceIte, Nat.reduceEqDiff, Nat.reduceAdd, Nat.reduceLeDiff, reduceCtorEq, Nat.reduceLT, Int.reduceLT, Int.reduceLE, Int.reduceEq, Int.reduceToNat, Nat.reduceMul]
      refine rg_of ⟨hjlt, by rw [hs1]; rfl⟩ ?_
      simp only [hst _ hs1, hX]
      exact (subL [(999, 999)] [] (by simp [envS, go_sem, wkV, wkL, AV.ids, idsL, keysOf, ren, stoOf, slTrees, AV.asOwn, rowPart, AV.isNil, rowS] <;> assumption) (by simp [stoS, go_sem, wkV, wkL, wkO, AV.ids, Ob.ids, idsL, keysOf, ren, AV.one, stoOf, slTrees, AV.asOwn, rowPart, AV.isNil, rowS] <;> assumption) (by simp [keysOf, ren]) (by simp [stoOf, keysOf, ren]) (by simp [keysOf, ren]) (by simp [keysOf, ren]))
    · rw [if_neg (by decide), if_neg (by decide)] at hs1
      rw [hnone hs1] at hpar
      simp only at hpar
      rw [hpar]
      simp only [go_sem, ↓reduceIte, Nat.reduceEqDiff, Nat.reduceAdd, Nat.reduceLeDiff, reduceCtorEq, Nat.reduceLT, Int.reduceLT, Int.reduceLE, Int.reduceEq, Int.reduceToNat, Nat.reduceMul]
      refine wends2 [] [] (by first | exact Or.inl rfl | exact Or.inr rfl) ?_ (by simp [AV.ids, idsL]) (by simp [stoS]) (by simp [keysOf]) (by simp [stoOf, keysOf] <;> assumption) (by simp [keysOf]) (by simp [keysOf])
      simp only [go_sem, r_retention_Parse, exists_eq_left', Option.some.injEq, ↓reduceIte, Nat.reduceEqDiff, Nat.reduceAdd, Nat.reduceLeDiff, reduceCtorEq, Nat.reduceLT, Int.reduceLT, Int.reduceLE, Int.reduceEq, Int.reduceToNat, Nat.reduceMul]
      simp [wkV, wkL, slTrees, AV.asOwn, rowPart, stoOf, AV.isNil]
  · rintro r ⟨_, hok⟩
    rw [List.length_map] at hok ⊢
    rw [← goAt_all] at hpar
    have hl := goAt_len (ps := ps) ps.length
    obtain ⟨X, hX⟩ := Option.isSome_iff_exists.1 hok
    have hst : stAt ps ps.length = X := by unfold stAt; rw [hX]; rfl
    rw [hX] at hpar
    rw [hst] at hl
    obtain ⟨l, far⟩ := X
    simp only at hpar hl
    rw [hpar]
    simp only [go_sem, hst, ↓reduceIte, Nat.reduceEqDiff, Nat.reduceAdd, Nat.reduceLeDiff, reduceCtorEq, Nat.reduceLT, Int.reduceLT, Int.reduceLE, Int.reduceEq, Int.reduceToNat, Nat.reduceMul]
    cases far
    · rw [if_neg (by decide)]
      by_cases h4 : 4 < l.length
      · have d4 : decide ((4 : Int) < (l.length : Int)) = true := decide_eq_true (by omega)
        rw [if_pos h4]
        simp only [go_sem, d4, ↓reduceIte, Nat.reduceEqDiff, Nat.reduceAdd, Nat.reduceLeDiff, reduceCtorEq, Nat.reduceLT, Int.reduceLT, Int.reduceLE, Int.reduceEq, Int.reduceToNat, Nat.reduceMul]
        refine wends2 [] [] (by first | exact Or.inl rfl | exact Or.inr rfl) ?_ (by simp [AV.ids, idsL]) (by simp [stoS]) (by simp [keysOf]) (by simp [stoOf, keysOf] <;> assumption) (by simp [keysOf]) (by simp [keysOf])
        simp only [go_sem, r_retention_Parse, exists_eq_left', Option.some.injEq, ↓reduceIte, Nat.reduceEqDiff, Nat.reduceAdd, Nat.reduceLeDiff, reduceCtorEq, Nat.reduceLT, Int.reduceLT, Int.reduceLE, Int.reduceEq, Int.reduceToNat, Nat.reduceMul]
        simp [wkV, wkL, slTrees, AV.asOwn, rowPart, stoOf, AV.isNil]
      · have d4 : decide ((4 : Int) < (l.length : Int)) = false := decide_eq_false (by omega)
        rw [if_neg h4]
        have hT := f_retention_Together l
        cases l with
        | nil =>
          have ht : togB [] = false := by decide
          rw [ht] at hT ⊢
          have d5 : decide ((4 : Int) < ((0 : Nat) : Int)) = false := rfl
          simp only [go_sem, d5, ↓reduceIte, Nat.reduceEqDiff, Nat.reduceAdd, Nat.reduceLeDiff, reduceCtorEq, Nat.reduceLT, Int.reduceLT, Int.reduceLE, Int.reduceEq, Int.reduceToNat, Nat.reduceMul]
          refine Cl_keep [] hT ?_ (by simp) rfl ?_
          · exact .one (Wk.gone (by simp [slTrees, AV.asOwn, rowPart, stoOf]) (by simp [stoOf]; rfl)) .nil
          simp only [go_sem, ↓reduceIte, Nat.reduceEqDiff, Nat.reduceAdd, Nat.reduceLeDiff, reduceCtorEq, Nat.reduceLT, Int.reduceLT, Int.reduceLE, Int.reduceEq, Int.reduceToNat, Nat.reduceMul]
          refine wends2 [] [] (by first | exact Or.inl rfl | exact Or.inr rfl) ?_ (by simp [AV.ids, idsL]) (by simp [stoS]) (by simp [keysOf]) (by simp [stoOf, keysOf] <;> assumption) (by simp [keysOf]) (by simp [keysOf])
          simp only [go_sem, r_retention_Parse, exists_eq_left', Option.some.injEq, ↓reduceIte, Nat.reduceEqDiff, Nat.reduceAdd, Nat.reduceLeDiff, reduceCtorEq, Nat.reduceLT, Int.reduceLT, Int.reduceLE, Int.reduceEq, Int.reduceToNat, Nat.reduceMul]
          simp [wkV, wkL, slTrees, AV.asOwn, rowPart, stoOf, AV.isNil]
        | cons a l =>
          have d5 : decide ((4 : Int) < ((l.length + 1 : Nat) : Int)) = false := d4
          cases ht : togB (a :: l)
          · rw [ht] at hT
            simp only [go_sem, d5, ↓reduceIte, Nat.reduceEqDiff, Nat.reduceAdd, Nat.reduceLeDiff, reduceCtorEq, Nat.reduceLT, Int.reduceLT, Int.reduceLE, Int.reduceEq, Int.reduceToNat, Nat.reduceMul]
            refine Cl_keep [999] hT ?_ (by simp [stoOf]) rfl ?_
            · exact .one (Wk.row (by simp [slTrees, AV.asOwn, rowPart, stoOf, List.take_of_length_le]) (by simp)) .nil
            simp only [go_sem, ↓reduceIte, Nat.reduceEqDiff, Nat.reduceAdd, Nat.reduceLeDiff, reduceCtorEq, Nat.reduceLT, Int.reduceLT, Int.reduceLE, Int.reduceEq, Int.reduceToNat, Nat.reduceMul]
            refine wends2 [] [] (by first | exact Or.inl rfl | exact Or.inr rfl) ?_ (by simp [AV.ids, idsL]) (by simp [stoS]) (by simp [keysOf]) (by simp [stoOf, keysOf] <;> assumption) (by simp [keysOf]) (by simp [keysOf])
            simp only [go_sem, r_retention_Parse, exists_eq_left', Option.some.injEq, ↓reduceIte, Nat.reduceEqDiff, Nat.reduceAdd, Nat.reduceLeDiff, reduceCtorEq, Nat.reduceLT, Int.reduceLT, Int.reduceLE, Int.reduceEq, Int.reduceToNat, Nat.reduceMul]
            simp [wkV, wkL, slTrees, AV.asOwn, rowPart, stoOf, AV.isNil]
          · rw [ht] at hT
            simp only [go_sem, d5, ↓reduceIte, Nat.reduceEqDiff, Nat.reduceAdd, Nat.reduceLeDiff, reduceCtorEq, Nat.reduceLT, Int.reduceLT, Int.reduceLE, Int.reduceEq, Int.reduceToNat, Nat.reduceMul]
            refine Cl_keep [999] hT ?_ (by simp [stoOf]) rfl ?_
            · exact .one (Wk.row (by simp [slTrees, AV.asOwn, rowPart, stoOf, List.take_of_length_le]) (by simp)) .nil
            simp only [go_sem, ↓reduceIte, Nat.reduceEqDiff, Nat.reduceAdd, Nat.reduceLeDiff, reduceCtorEq, Nat.reduceLT, Int.reduceLT, Int.reduceLE, Int.reduceEq, Int.reduceToNat, Nat.reduceMul]
            refine wends2 [] [999] (by first | exact Or.inl rfl | exact Or.inr rfl) ?_ (by simp [AV.ids, idsL]) (by simp [stoS]) (by simp [keysOf]) (by simp [stoOf, keysOf] <;> assumption) (by simp [keysOf]) (by simp [keysOf])
            simp only [go_sem, r_retention_Parse, exists_eq_left', Option.some.injEq, ↓reduceIte, Nat.reduceEqDiff, Nat.reduceAdd, Nat.reduceLeDiff, reduceCtorEq, Nat.reduceLT, Int.reduceLT, Int.reduceLE, Int.reduceEq, Int.reduceToNat, Nat.reduceMul]
            simp [wkV, wkL, slTrees, AV.asOwn, rowPart, stoOf, AV.isNil, List.take_of_length_le]
    · rw [if_pos rfl]
      simp only [go_sem, ↓reduceIte, Nat.reduceEqDiff, Nat.reduceAdd, Nat.reduceLeDiff, reduceCtorEq, Nat.reduceLT, Int.reduceLT, Int.reduceLE, Int.reduceEq, Int.reduceToNat, Nat.reduceMul]
      refine wends2 [] [] (by first | exact Or.inl rfl | exact Or.inr rfl) ?_ (by simp [AV.ids, idsL]) (by simp [stoS]) (by simp [keysOf]) (by simp [stoOf, keysOf] <;> assumption) (by simp [keysOf]) (by simp [keysOf])
      simp only [go_sem, r_retention_Parse, exists_eq_left', Option.some.injEq, ↓reduceIte, Nat.reduceEqDiff, Nat.reduceAdd, Nat.reduceLeDiff, reduceCtorEq, Nat.reduceLT, Int.reduceLT, Int.reduceLE, Int.reduceEq, Int.reduceToNat, Nat.reduceMul]
      simp [wkV, wkL, slTrees, AV.asOwn, rowPart, stoOf, AV.isNil]

theorem f_ref10_Parse (s : ByteArray) (hs : s.size ≤ 1000000) : Meets Tryd.prog E0 n_ref10_Parse [Str s] [] (.tp [slL (rtParse s.data.toList).1, I (rtParse s.data.toList).2]) [] := by
  refine m_ref10_Parse (by simp) (shut0 rfl) (shut0 rfl) (by simp) (by simp [keysOf]) ?_
  simp only [go_sem, s_ref10_Parse, ↓reduceIte, Nat.reduceEqDiff, Nat.reduceAdd, Nat.reduceLeDiff, reduceCtorEq, Nat.reduceLT, Int.reduceLT, Int.reduceLE, Int.reduceEq, Int.reduceToNat, Nat.reduceMul]
  refine Cl_plain (f_ref10_split s 44 hs) ?_
  have hpar : rtParse s.data.toList = match rtGo (partsB 44 s.data.toList) ([], false) with
    | none => ([], 7)
    | some (r, far) => if far then ([], 3) else if 4 < r.length then ([], 11) else if togB r then (r, 0) else ([], 1) := rfl
  have hpl := parts_sum 44 s.data.toList
  rw [ba_len] at hpl
  have hpv : partsV 44 s.data.toList = .t (.sl 1 ((partsB 44 s.data.toList).map fun x => rowS (toB x))) := rfl
  generalize partsB 44 s.data.toList = ps at *
  rw [hpv]
  have hplen : (ps.map fun x => rowS (toB x)).length = ps.length := by simp
  simp only [go_sem, ↓reduceIte, Nat.reduceEqDiff, Nat.reduceAdd, Nat.reduceLeDiff, reduceCtorEq, Nat.reduceLT, Int.reduceLT, Int.reduceLE, Int.reduceEq, Int.reduceToNat, Nat.reduceMul]
  refine W_loop (fun j : Nat => ps.length - j) (fun j => j ≤ ps.length ∧ (goAt ps j).isSome = true)
    (fun j => [(4, .t (.sl 1 (ps.map fun x => rowS (toB x)))), (5, .own 999 2 0 (stAt ps j).1.length (!(stAt ps j).1.isEmpty)), (6, I (if (stAt ps j).2 then 3 else 0)), (7, I j)])
    (fun j => [(999, .row 2 (!(stAt ps j).1.isEmpty) ((stAt ps j).1.map slT))]) 0 ⟨Nat.zero_le _, rfl⟩ ?_ ?_
  · simp only [show stAt ps 0 = ([], false) from rfl, List.map_nil, List.length_nil, List.isEmpty_nil, Bool.not_true, Bool.false_eq_true, if_false]
    exact (subL [(999, 888)] [] (by simp [envS, go_sem, wkV, wkL, AV.ids, idsL, keysOf, ren, stoOf, slTrees, AV.asOwn, rowPart, AV.isNil, rowS] <;> assumption) (by simp [stoS, go_sem, wkV, wkL, wkO, AV.ids, Ob.ids, idsL, keysOf, ren, AV.one, stoOf, slTrees, AV.asOwn, rowPart, AV.isNil, rowS] <;> assumption) (by simp [keysOf, ren]) (by simp [stoOf, keysOf, ren]) (by simp [keysOf, ren]) (by simp [keysOf, ren]))
  · rintro j ⟨hj, hok⟩
    have hl := goAt_len (ps := ps) j
    have hst : ∀ y, goAt ps (j + 1) = some y → stAt ps (j + 1) = y := fun y h => by unfold stAt; rw [h]; rfl
    have hnone : goAt ps (j + 1) = none → rtGo ps ([], false) = none := goAt_none
    by_cases hjl : j < ps.length
    · have dj : decide (j < ps.length) = true := decide_eq_true hjl
      obtain ⟨q, hq⟩ := get_of_lt hjl
      have hs1 := goAt_succ hq hok
      have hgq : (ps.map fun x => rowS (toB x))[j]? = some [.v (.string (toB q))] := by rw [List.getElem?_map, hq]; rfl
      have hqz : (toB q).size ≤ 1000000 := by have := hpl.2 q (List.mem_of_getElem? hq); show q.length ≤ _; omega
      have hT : Meets Tryd.prog E0 n_ref10_trim [Str (toB q)] [] (Str (toB (Lib.trimB q 32))) [] := f_ref10_trim (toB q) (by omega)
      have htl : (Lib.trimB q 32).length ≤ q.length := by
        unfold Lib.trimB Lib.trimLeftB Lib.trimRightB
        refine Nat.le_trans (List.dropWhile_suffix _).length_le ?_
        rw [List.length_reverse]
        refine Nat.le_trans (List.dropWhile_suffix _).length_le ?_
        rw [List.length_reverse]; exact Nat.le_refl _
      have hS := f_ref10_split (toB (Lib.trimB q 32)) 58 (by show (Lib.trimB q 32).length ≤ _; have : (toB q).size = q.length := rfl; omega)
      have hSv : partsV 58 (toB (Lib.trimB q 32)).data.toList = .t (.sl 1 ((partsB 58 (Lib.trimB q 32)).map fun x => rowS (toB x))) := rfl
      have hR : rtRung q = match partsB 58 (Lib.trimB q 32) with
        | [a, b] => if (rtEith a).2.2 = 2 ∨ (rtEith b).2.2 = 2 then (0, 0, 7) else if (rtEith a).2.2 ≠ 0 ∨ (rtEith b).2.2 ≠ 0 ∨ (rtEith a).1 = 0 then (0, 0, 3) else ((rtEith a).1, if (rtEith b).2.1 then (rtEith b).1 else (rtEith b).1 / (rtEith a).1, 0)
        | _ => (0, 0, 7) := rfl
      have hqp := parts_sum 58 (Lib.trimB q 32)
      rw [hSv] at hS
      have hnext : IntKind.i64.wrap ((j : Int) + 1) = ((j + 1 : Nat) : Int) := by rw [wrap_i64_of (by omega) (by omega)]; omega
      generalize partsB 58 (Lib.trimB q 32) = qs at *
      have hqlen : (qs.map fun x => rowS (toB x)).length = qs.length := by simp
      generalize hX : stAt ps j = X at *
      obtain ⟨l, far⟩ := X
      simp only at hl
      unfold rtStep at hs1
      simp only at hs1
      simp only [go_sem, dj, hgq, hX, hplen, ↓reduceIte, Nat.reduceEqDiff, Nat.reduceAdd, Nat.reduceLeDiff, reduceCtorEq, Nat.reduceLT, Int.reduceLT, Int.reduceLE, Int.reduceEq, Int.reduceToNat, Nat.reduceMul]
      refine Cl_plain hT ?_
      simp only [go_sem, ↓reduceIte, Nat.reduceEqDiff, Nat.reduceAdd, Nat.reduceLeDiff, reduceCtorEq, Nat.reduceLT, Int.reduceLT, Int.reduceLE, Int.reduceEq, Int.reduceToNat, Nat.reduceMul]
      refine Cl_plain hS ?_
      by_cases h2 : qs.length = 2
      · obtain ⟨a, b, rfl⟩ : ∃ a b, qs = [a, b] := by
          match qs, h2 with
          | [a, b], _ => exact ⟨a, b, rfl⟩
        have ha := f_ref10_either (toB a) (by have := hqp.2 a (by simp); have : (toB q).size = q.length := rfl; show a.length ≤ _; omega)
        have hb := f_ref10_either (toB b) (by have := hqp.2 b (by simp); have : (toB q).size = q.length := rfl; show b.length ≤ _; omega)
        rw [toB_data] at ha hb
        simp only at hR
        have la := rtEith_le a
        have lb := rtEith_le b
        generalize rtEith a = x at *
        generalize rtEith b = y at *
        obtain ⟨x1, xb, xe⟩ := x
        obtain ⟨y1, yb, ye⟩ := y
        simp only at la lb ha hb hR
        have d2 : decide (((2 : Nat) : Int) = 2) = true := rfl
        simp only [go_sem, rowS_get, d2, ↓reduceIte, Nat.reduceEqDiff, Nat.reduceAdd, Nat.reduceLeDiff, reduceCtorEq, Nat.reduceLT, Int.reduceLT, Int.reduceLE, Int.reduceEq, Int.reduceToNat, Nat.reduceMul]
        refine Cl_plain ha ?_
        simp only [go_sem, rowS_get, ↓reduceIte, Nat.reduceEqDiff, Nat.reduceAdd, Nat.reduceLeDiff, reduceCtorEq, Nat.reduceLT, Int.reduceLT, Int.reduceLE, Int.reduceEq, Int.reduceToNat, Nat.reduceMul]
        refine Cl_plain hb ?_
        by_cases q1 : xe = 2 ∨ ye = 2
        · rw [if_pos q1] at hR
          rw [hR, if_neg (by decide), if_neg (by decide)] at hs1
          rw [hnone hs1] at hpar
          simp only at hpar
          rw [hpar]
          clear hs1 hR hpar hnone hst
          rcases la.2.2 with rfl | rfl | rfl <;> rcases lb.2.2 with rfl | rfl | rfl <;> first | (exfalso; revert q1; decide) | skip
          all_goals
            simp only [go_sem, ↓reduceIte, Nat.reduceEqDiff, Nat.reduceAdd, Nat.reduceLeDiff, reduceCtorEq, Nat.reduceLT, Int.reduceLT, Int.reduceLE, Int.reduceEq, Int.reduceToNat, Nat.reduceMul]
            refine wends2 [] [] (by first | exact Or.inl rfl | exact Or.inr rfl) ?_ (by simp [AV.ids, idsL]) (by simp [stoS]) (by simp [keysOf]) (by simp [stoOf, keysOf] <;> assumption) (by simp [keysOf]) (by simp [keysOf])
            simp only [go_sem, r_ref10_Parse, exists_eq_left', Option.some.injEq, ↓reduceIte, Nat.reduceEqDiff, Nat.reduceAdd, Nat.reduceLeDiff, reduceCtorEq, Nat.reduceLT, Int.reduceLT, Int.reduceLE, Int.reduceEq, Int.reduceToNat, Nat.reduceMul]
            simp [wkV, wkL, slTrees, AV.asOwn, rowPart, stoOf, AV.isNil]
        · rw [if_neg q1] at hR
          by_cases q2 : xe ≠ 0 ∨ ye ≠ 0 ∨ x1 = 0
          · rw [if_pos q2] at hR
            rw [hR, if_neg (by decide), if_pos rfl] at hs1
            have hst' := hst _ hs1
            have hsome : (goAt ps (j + 1)).isSome = true := by rw [hs1]; rfl
            clear hs1 hR hpar hnone hst
            rcases la.2.2 with rfl | rfl | rfl <;> rcases lb.2.2 with rfl | rfl | rfl <;> first | (exfalso; revert q1; decide) | skip
            · have d : decide (x1 = 0) = true := by simpa using q2
              simp only [go_sem, d, hnext, ↓reduceIte, Nat.reduceEqDiff, Nat.reduceAdd, Nat.reduceLeDiff, reduceCtorEq, Nat.reduceLT, Int.reduceLT, Int.reduceLE, Int.reduceEq, Int.reduceToNat, Nat.reduceMul]
              refine rd_of (j + 1) (by first | omega | (simp only; omega)) ⟨hjl, hsome⟩ ?_
              simp only [hst', if_true]
              exact (subL [(999, 999)] [] (by simp [envS, go_sem, wkV, wkL, AV.ids, idsL, keysOf, ren, stoOf, slTrees, AV.asOwn, rowPart, AV.isNil, rowS] <;> assumption) (by simp [stoS, go_sem, wkV, wkL, wkO, AV.ids, Ob.ids, idsL, keysOf, ren, AV.one, stoOf, slTrees, AV.asOwn, rowPart, AV.isNil, rowS] <;> assumption) (by simp [keysOf, ren]) (by simp [stoOf, keysOf, ren]) (by simp [keysOf, ren]) (by simp [keysOf, ren]))
            all_goals
              simp only [go_sem, hnext, ↓reduceIte, Nat.reduceEqDiff, Nat.reduceAdd, Nat.reduceLeDiff, reduceCtorEq, Nat.reduceLT, Int.reduceLT, Int.reduceLE, Int.reduceEq, Int.reduceToNat, Nat.reduceMul]
              refine rd_of (j + 1) (by first | omega | (simp only; omega)) ⟨hjl, hsome⟩ ?_
              simp only [hst', if_true]
              exact (subL [(999, 999)] [] (by simp [envS, go_sem, wkV, wkL, AV.ids, idsL, keysOf, ren, stoOf, slTrees, AV.asOwn, rowPart, AV.isNil, rowS] <;> assumption) (by simp [stoS, go_sem, wkV, wkL, wkO, AV.ids, Ob.ids, idsL, keysOf, ren, AV.one, stoOf, slTrees, AV.asOwn, rowPart, AV.isNil, rowS] <;> assumption) (by simp [keysOf, ren]) (by simp [stoOf, keysOf, ren]) (by simp [keysOf, ren]) (by simp [keysOf, ren]))
          · obtain ⟨rfl, rfl, h0⟩ : xe = 0 ∧ ye = 0 ∧ ¬ x1 = 0 := by
              refine ⟨?_, ?_, ?_⟩ <;> (apply Decidable.byContradiction; intro h; apply q2; simp_all)
            rw [if_neg q2] at hR
            rw [hR, if_pos rfl] at hs1
            have hst' := hst _ hs1
            have hsome : (goAt ps (j + 1)).isSome = true := by rw [hs1]; rfl
            clear hs1 hR hpar hnone hst
            have d : decide (x1 = 0) = false := decide_eq_false h0
            have wq : binInt .quo .i64 y1 x1 = some (.int .i64 (y1 / x1)) := by
              have q0 : (0 : Int) ≤ y1 / x1 := Int.ediv_nonneg (by omega) (by omega)
              have q1 : y1 / x1 ≤ y1 := Int.ediv_le_self _ (by omega)
              rw [i64_quo h0, sdiv (by omega), wrap_i64_of (by omega) (by omega)]
            have b4 : (l.length + 1) * 16 ≤ 2 ^ 47 := by omega
            have b5 : l.length + 1 < 2 ^ 47 := by omega
            have em : ∀ z : Int, l.map slT ++ [[.v (.int .i64 x1), .v (.int .i64 z)]] = (l ++ [(x1, z)]).map slT := by intro z; simp [slT]
            have hlen : (l.map slT).length = l.length := by simp
            cases yb
            all_goals
              simp only [go_sem, d, wq, b4, b5, em, hlen, hnext, ↓reduceIte, Nat.reduceEqDiff, Nat.reduceAdd, Nat.reduceLeDiff, reduceCtorEq, Nat.reduceLT, Int.reduceLT, Int.reduceLE, Int.reduceEq, Int.reduceToNat, Nat.reduceMul]
              refine rd_of (j + 1) (by first | omega | (simp only; omega)) ⟨hjl, hsome⟩ ?_
              simp only [hst', List.length_append, List.length_cons, List.length_nil, Nat.zero_add, show ∀ z : Rung, (l ++ [z]).isEmpty = false from by simp, Bool.not_false, Bool.false_eq_true, if_false, if_true]
              exact (subL [(999, 176)] [] (by simp [envS, go_sem, wkV, wkL, AV.ids, idsL, keysOf, ren, stoOf, slTrees, AV.asOwn, rowPart, AV.isNil, rowS] <;> assumption) (by simp [stoS, go_sem, wkV, wkL, wkO, AV.ids, Ob.ids, idsL, keysOf, ren, AV.one, stoOf, slTrees, AV.asOwn, rowPart, AV.isNil, rowS] <;> assumption) (by simp [keysOf, ren]) (by simp [stoOf, keysOf, ren]) (by simp [keysOf, ren]) (by simp [keysOf, ren]))
      · have d2 : decide ((qs.length : Int) = 2) = false := decide_eq_false (by omega)
        have hR' : rtRung q = (0, 0, 7) := by
          rw [hR]
          match qs, h2 with
          | [], _ => rfl
          | [a], _ => rfl
          | a :: b :: c :: r, _ => rfl
        rw [hR', if_neg (by decide), if_neg (by decide)] at hs1
        rw [hnone hs1] at hpar
        simp only at hpar
        rw [hpar]
        simp only [go_sem, hqlen, d2, ↓reduceIte, Nat.reduceEqDiff, Nat.reduceAdd, Nat.reduceLeDiff, reduceCtorEq, Nat.reduceLT, Int.reduceLT, Int.reduceLE, Int.reduceEq, Int.reduceToNat, Nat.reduceMul]
        refine wends2 [] [] (by first | exact Or.inl rfl | exact Or.inr rfl) ?_ (by simp [AV.ids, idsL]) (by simp [stoS]) (by simp [keysOf]) (by simp [stoOf, keysOf] <;> assumption) (by simp [keysOf]) (by simp [keysOf])
        simp only [go_sem, r_ref10_Parse, exists_eq_left', Option.some.injEq, ↓reduceIte, Nat.reduceEqDiff, Nat.reduceAdd, Nat.reduceLeDiff, reduceCtorEq, Nat.reduceLT, Int.reduceLT, Int.reduceLE, Int.reduceEq, Int.reduceToNat, Nat.reduceMul]
        simp [wkV, wkL, slTrees, AV.asOwn, rowPart, stoOf, AV.isNil]
    · obtain rfl : j = ps.length := by omega
      have dj : decide (ps.length < ps.length) = false := decide_eq_false (by omega)
      rw [← goAt_all] at hpar
      obtain ⟨X, hX⟩ := Option.isSome_iff_exists.1 hok
      have hst : stAt ps ps.length = X := by unfold stAt; rw [hX]; rfl
      rw [hX] at hpar
      rw [hst] at hl
      obtain ⟨l, far⟩ := X
      simp only at hpar hl
      rw [hpar]
      simp only [go_sem, dj, hst, hplen, ↓reduceIte, Nat.reduceEqDiff, Nat.reduceAdd, Nat.reduceLeDiff, reduceCtorEq, Nat.reduceLT, Int.reduceLT, Int.reduceLE, Int.reduceEq, Int.reduceToNat, Nat.reduceMul]
      cases far
      · rw [if_neg (by decide)]
        by_cases h4 : 4 < l.length
        · have d4 : decide ((4 : Int) < (l.length : Int)) = true := decide_eq_true (by omega)
          rw [if_pos h4]
          simp only [go_sem, d4, ↓reduceIte, Nat.reduceEqDiff, Nat.reduceAdd, Nat.reduceLeDiff, reduceCtorEq, Nat.reduceLT, Int.reduceLT, Int.reduceLE, Int.reduceEq, Int.reduceToNat, Nat.reduceMul]
          refine wends2 [] [] (by first | exact Or.inl rfl | exact Or.inr rfl) ?_ (by simp [AV.ids, idsL]) (by simp [stoS]) (by simp [keysOf]) (by simp [stoOf, keysOf] <;> assumption) (by simp [keysOf]) (by simp [keysOf])
          simp only [go_sem, r_ref10_Parse, exists_eq_left', Option.some.injEq, ↓reduceIte, Nat.reduceEqDiff, Nat.reduceAdd, Nat.reduceLeDiff, reduceCtorEq, Nat.reduceLT, Int.reduceLT, Int.reduceLE, Int.reduceEq, Int.reduceToNat, Nat.reduceMul]
          simp [wkV, wkL, slTrees, AV.asOwn, rowPart, stoOf, AV.isNil]
        · have d4 : decide ((4 : Int) < (l.length : Int)) = false := decide_eq_false (by omega)
          rw [if_neg h4]
          have hT := f_ref10_Together l (by omega)
          cases l with
          | nil =>
            have ht : togB [] = false := by decide
            rw [ht] at hT ⊢
            have d5 : decide ((4 : Int) < ((0 : Nat) : Int)) = false := rfl
            simp only [go_sem, d5, ↓reduceIte, Nat.reduceEqDiff, Nat.reduceAdd, Nat.reduceLeDiff, reduceCtorEq, Nat.reduceLT, Int.reduceLT, Int.reduceLE, Int.reduceEq, Int.reduceToNat, Nat.reduceMul]
            refine Cl_keep [] hT ?_ (by simp) rfl ?_
            · exact .one (Wk.gone (by simp [slTrees, AV.asOwn, rowPart, stoOf]) (by simp [stoOf]; rfl)) .nil
            simp only [go_sem, ↓reduceIte, Nat.reduceEqDiff, Nat.reduceAdd, Nat.reduceLeDiff, reduceCtorEq, Nat.reduceLT, Int.reduceLT, Int.reduceLE, Int.reduceEq, Int.reduceToNat, Nat.reduceMul]
            refine wends2 [] [] (by first | exact Or.inl rfl | exact Or.inr rfl) ?_ (by simp [AV.ids, idsL]) (by simp [stoS]) (by simp [keysOf]) (by simp [stoOf, keysOf] <;> assumption) (by simp [keysOf]) (by simp [keysOf])
            simp only [go_sem, r_ref10_Parse, exists_eq_left', Option.some.injEq, ↓reduceIte, Nat.reduceEqDiff, Nat.reduceAdd, Nat.reduceLeDiff, reduceCtorEq, Nat.reduceLT, Int.reduceLT, Int.reduceLE, Int.reduceEq, Int.reduceToNat, Nat.reduceMul]
            simp [wkV, wkL, slTrees, AV.asOwn, rowPart, stoOf, AV.isNil]
          | cons a l =>
            have d5 : decide ((4 : Int) < ((l.length + 1 : Nat) : Int)) = false := d4
            cases ht : togB (a :: l)
            · rw [ht] at hT
              simp only [go_sem, d5, ↓reduceIte, Nat.reduceEqDiff, Nat.reduceAdd, Nat.reduceLeDiff, reduceCtorEq, Nat.reduceLT, Int.reduceLT, Int.reduceLE, Int.reduceEq, Int.reduceToNat, Nat.reduceMul]
              refine Cl_keep [999] hT ?_ (by simp [stoOf]) rfl ?_
              · exact .one (Wk.row (by simp [slTrees, AV.asOwn, rowPart, stoOf, List.take_of_length_le]) (by simp)) .nil
              simp only [go_sem, ↓reduceIte, Nat.reduceEqDiff, Nat.reduceAdd, Nat.reduceLeDiff, reduceCtorEq, Nat.reduceLT, Int.reduceLT, Int.reduceLE, Int.reduceEq, Int.reduceToNat, Nat.reduceMul]
              refine wends2 [] [] (by first | exact Or.inl rfl | exact Or.inr rfl) ?_ (by simp [AV.ids, idsL]) (by simp [stoS]) (by simp [keysOf]) (by simp [stoOf, keysOf] <;> assumption) (by simp [keysOf]) (by simp [keysOf])
              simp only [go_sem, r_ref10_Parse, exists_eq_left', Option.some.injEq, ↓reduceIte, Nat.reduceEqDiff, Nat.reduceAdd, Nat.reduceLeDiff, reduceCtorEq, Nat.reduceLT, Int.reduceLT, Int.reduceLE, Int.reduceEq, Int.reduceToNat, Nat.reduceMul]
              simp [wkV, wkL, slTrees, AV.asOwn, rowPart, stoOf, AV.isNil]
            · rw [ht] at hT
              simp only [go_sem, d5, ↓reduceIte, Nat.reduceEqDiff, Nat.reduceAdd, Nat.reduceLeDiff, reduceCtorEq, Nat.reduceLT, Int.reduceLT, Int.reduceLE, Int.reduceEq, Int.reduceToNat, Nat.reduceMul]
              refine Cl_keep [999] hT ?_ (by simp [stoOf]) rfl ?_
              · exact .one (Wk.row (by simp [slTrees, AV.asOwn, rowPart, stoOf, List.take_of_length_le]) (by simp)) .nil
              simp only [go_sem, ↓reduceIte, Nat.reduceEqDiff, Nat.reduceAdd, Nat.reduceLeDiff, reduceCtorEq, Nat.reduceLT, Int.reduceLT, Int.reduceLE, Int.reduceEq, Int.reduceToNat, Nat.reduceMul]
              refine wends2 [] [999] (by first | exact Or.inl rfl | exact Or.inr rfl) ?_ (by simp [AV.ids, idsL]) (by simp [stoS]) (by simp [keysOf]) (by simp [stoOf, keysOf] <;> assumption) (by simp [keysOf]) (by simp [keysOf])
              simp only [go_sem, r_ref10_Parse, exists_eq_left', Option.some.injEq, ↓reduceIte, Nat.reduceEqDiff, Nat.reduceAdd, Nat.reduceLeDiff, reduceCtorEq, Nat.reduceLT, Int.reduceLT, Int.reduceLE, Int.reduceEq, Int.reduceToNat, Nat.reduceMul]
              simp [wkV, wkL, slTrees, AV.asOwn, rowPart, stoOf, AV.isNil, List.take_of_length_le]
      · rw [if_pos rfl]
        simp only [go_sem, ↓reduceIte, Nat.reduceEqDiff, Nat.reduceAdd, Nat.reduceLeDiff, reduceCtorEq, Nat.reduceLT, Int.reduceLT, Int.reduceLE, Int.reduceEq, Int.reduceToNat, Nat.reduceMul]
        refine wends2 [] [] (by first | exact Or.inl rfl | exact Or.inr rfl) ?_ (by simp [AV.ids, idsL]) (by simp [stoS]) (by simp [keysOf]) (by simp [stoOf, keysOf] <;> assumption) (by simp [keysOf]) (by simp [keysOf])
        simp only [go_sem, r_ref10_Parse, exists_eq_left', Option.some.injEq, ↓reduceIte, Nat.reduceEqDiff, Nat.reduceAdd, Nat.reduceLeDiff, reduceCtorEq, Nat.reduceLT, Int.reduceLT, Int.reduceLE, Int.reduceEq, Int.reduceToNat, Nat.reduceMul]
        simp [wkV, wkL, slTrees, AV.asOwn, rowPart, stoOf, AV.isNil]

end Go.Proofs.YtcadhlakhdndjaaDoor
