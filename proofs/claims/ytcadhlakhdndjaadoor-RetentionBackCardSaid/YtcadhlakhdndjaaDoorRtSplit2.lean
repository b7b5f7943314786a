/- A text's parts, the document's way. No statement of the seat is proved here. -/
import Derived.Test.YtcadhlakhdndjaaDoorRtSplit
import Derived.Test.YtcadhlakhdndjaaDoorSxH
set_option linter.unusedSimpArgs false
set_option linter.unusedVariables false
namespace Go.Proofs.YtcadhlakhdndjaaDoor
open Go Go.Sx

def toB (l : List UInt8) : ByteArray := ⟨l.toArray⟩

def rowS (x : ByteArray) : List T := [.v (.string x)]

/-- A text's parts, as a row of strings. -/
def partsV (c : UInt8) (l : List UInt8) : AV := .t (.sl 1 ((partsB c l).map fun x => rowS (toB x)))

theorem toB_data (l : List UInt8) : (toB l).data.toList = l := rfl

theorem toB_app (x : ByteArray) (a : UInt8) (l : List UInt8) : x ++ toB [a] ++ toB l = x ++ toB (a :: l) := by
  apply bytes_ext
  simp [toB]

theorem toB_nil (x : ByteArray) : x ++ toB [] = x := by
  apply bytes_ext
  simp [toB]

theorem nil_toB (l : List UInt8) : bs [] ++ toB l = toB l := by
  apply bytes_ext
  simp [toB, bs]

/-- What is still to come, behind what stands. -/
def tailP (c : UInt8) (cur : ByteArray) (rest : List UInt8) : List ByteArray := match partsB c rest with
  | p :: ps => (cur ++ toB p) :: ps.map toB
  | [] => []

theorem tailP_nil (c : UInt8) (cur : ByteArray) : tailP c cur [] = [cur] := by simp [tailP, partsB, toB_nil]

theorem tailP_at (c : UInt8) (cur : ByteArray) (rest : List UInt8) : tailP c cur (c :: rest) = cur :: tailP c (bs []) rest := by
  have hne := partsB_ne c rest
  unfold tailP
  simp only [partsB, if_pos]
  generalize partsB c rest = ps at *
  cases ps with
  | nil => exact absurd rfl hne
  | cons p ps => simp [toB_nil, nil_toB]

theorem tailP_on (c b : UInt8) (cur : ByteArray) (rest : List UInt8) (h : ¬ b = c) : tailP c cur (b :: rest) = tailP c (cur ++ toB [b]) rest := by
  have hne := partsB_ne c rest
  unfold tailP
  simp only [partsB, if_neg h]
  generalize partsB c rest = ps at *
  cases ps with
  | nil => exact absurd rfl hne
  | cons p ps => simp [toB_app]

theorem extract_one {s : ByteArray} {b : UInt8} {p : Nat} (h : s[p]? = some b) : s.extract p (p + 1) = toB [b] := by
  apply bytes_ext
  rw [ba_get] at h
  obtain ⟨hi, hb⟩ := List.getElem?_eq_some_iff.1 h
  have : (s.extract p (p + 1)).data.toList = (s.data.toList.drop p).take 1 := by
    simp [ByteArray.extract, ByteArray.copySlice]
  rw [this, toB_data, ← hb, List.drop_eq_getElem_cons hi]
  simp

theorem f_ref10_split (s : ByteArray) (c : UInt8) (hs : s.size ≤ 1000000) : Meets Tryd.prog E0 n_ref10_split [Str s, B8 c.toNat] [] (partsV c s.data.toList) [] := by
  refine m_ref10_split (by simp) (shut0 rfl) (shut0 rfl) (by simp) (by simp [keysOf]) ?_
  simp only [go_sem, s_ref10_split, ↓reduceIte, Nat.reduceEqDiff, Nat.reduceAdd, Nat.reduceLeDiff, reduceCtorEq, Nat.reduceLT, Int.reduceLT, Int.reduceLE, Int.reduceEq, Int.reduceToNat, Nat.reduceMul]
  have hL := ba_len s
  refine W_loop (fun i : List ByteArray × ByteArray × List UInt8 => i.2.2.length) (fun i => Suf s i.2.2 ∧ (i.1.length + i.2.2.length ≤ s.size ∧ i.2.1.size + i.2.2.length ≤ s.size) ∧ (partsB c s.data.toList).map toB = i.1 ++ tailP c i.2.1 i.2.2)
    (fun i => [(0, Str s), (1, B8 c.toNat), (5, .own 999 1 0 (i.1.length + 1) true), (6, I ((s.size - i.2.2.length : Nat)))]) (fun i => [(999, .row 1 true ((i.1 ++ [i.2.1]).map rowS))])
    ([], bs [], s.data.toList) ⟨Suf.all s, ⟨by simp, by have : (bs []).size = 0 := rfl; simp only [hL]; omega⟩, ?_⟩ ?_ ?_
  · have hne := partsB_ne c s.data.toList
    unfold tailP
    generalize partsB c s.data.toList = ps at *
    cases ps with
    | nil => exact absurd rfl hne
    | cons p ps => simp [nil_toB]
  · rw [hL, Nat.sub_self]
    exact (subL [(999, 101)] [] (by simp [envS, go_sem, wkV, wkL, AV.ids, idsL, keysOf, ren, stoOf, slTrees, AV.asOwn, rowPart, AV.isNil, rowS] <;> assumption) (by simp [stoS, go_sem, wkV, wkL, wkO, AV.ids, Ob.ids, idsL, keysOf, ren, AV.one, stoOf, slTrees, AV.asOwn, rowPart, AV.isNil, rowS] <;> assumption) (by simp [keysOf, ren]) (by simp [stoOf, keysOf, ren]) (by simp [keysOf, ren]) (by simp [keysOf, ren]))
  · rintro ⟨pre, cur, rest⟩ ⟨hsuf, ⟨hz1, hz2⟩, hinv⟩
    simp only at hsuf hz1 hz2 hinv
    have hl := hsuf.len
    have hg := hsuf.get 0
    simp only [Nat.add_zero] at hg
    cases rest with
    | nil =>
      simp only [List.length_nil, Nat.sub_zero]
      have d0 : decide (s.size < s.size) = false := decide_eq_false (by omega)
      have hv : partsV c s.data.toList = .t (.sl 1 ((pre ++ [cur]).map rowS)) := by
        unfold partsV
        rw [tailP_nil] at hinv
        rw [← hinv, List.map_map]; rfl
      rw [hv]
      simp only [go_sem, d0, ↓reduceIte, Nat.reduceEqDiff, Nat.reduceAdd, Nat.reduceLeDiff, reduceCtorEq, Nat.reduceLT, Int.reduceLT, Int.reduceLE, Int.reduceEq, Int.reduceToNat, Nat.reduceMul]
      refine wends2 [] [999] (by first | exact Or.inl rfl | exact Or.inr rfl) ?_ (by simp [AV.ids, idsL]) (by simp [stoS]) (by simp [keysOf]) (by simp [stoOf, keysOf] <;> assumption) (by simp [keysOf]) (by simp [keysOf])
      simp only [go_sem, r_ref10_split, exists_eq_left', Option.some.injEq, ↓reduceIte, Nat.reduceEqDiff, Nat.reduceAdd, Nat.reduceLeDiff, reduceCtorEq, Nat.reduceLT, Int.reduceLT, Int.reduceLE, Int.reduceEq, Int.reduceToNat, Nat.reduceMul]
      simp [wkV, wkL, slTrees, AV.asOwn, rowPart, stoOf, AV.isNil, List.take_of_length_le]
    | cons b rest =>
      simp only [List.length_cons] at hl hg hz1 hz2 ⊢
      obtain ⟨p, hp⟩ : ∃ p, s.size - (rest.length + 1) = p := ⟨_, rfl⟩
      rw [hp] at hg ⊢
      simp only [List.getElem?_cons_zero] at hg
      have d0 : decide (p < s.size) = true := decide_eq_true (by omega)
      have ei : IntKind.i64.wrap ((p : Int) + 1) = ((s.size - rest.length : Nat) : Int) := by rw [wrap_i64_of (by omega) (by omega)]; omega
      by_cases hb : b = c
      · subst hb
        rw [tailP_at] at hinv
        have d1 : ∀ i : Int, decide (i = i) = true := fun i => decide_eq_true rfl
        have b4 : (pre.length + 1 + 1) * 16 ≤ 2 ^ 47 := by omega
        have b5 : pre.length + 1 + 1 < 2 ^ 47 := by omega
        have em : (pre ++ [cur]).map rowS ++ [[.v (.string (bs []))]] = ((pre ++ [cur]) ++ [bs []]).map rowS := by simp [rowS]
        have hlen : ((pre ++ [cur]).map rowS).length = pre.length + 1 := by simp
        simp only [go_sem, d0, hg, d1, ei, b4, b5, em, hlen, ↓reduceIte, Nat.reduceEqDiff, Nat.reduceAdd, Nat.reduceLeDiff, reduceCtorEq, Nat.reduceLT, Int.reduceLT, Int.reduceLE, Int.reduceEq, Int.reduceToNat, Nat.reduceMul]
        refine rd_of (pre ++ [cur], bs [], rest) (by simp) ⟨hsuf.tail, ⟨by simp; omega, ?_⟩, ?_⟩ ?_
        · have : (bs []).size = 0 := rfl
          simp only; omega
        · simp only; rw [hinv]; simp
        · simp only [List.length_append, List.length_cons, List.length_nil, Nat.zero_add]
          exact (subL [(999, 115)] [] (by simp [envS, go_sem, wkV, wkL, AV.ids, idsL, keysOf, ren, stoOf, slTrees, AV.asOwn, rowPart, AV.isNil, rowS] <;> assumption) (by simp [stoS, go_sem, wkV, wkL, wkO, AV.ids, Ob.ids, idsL, keysOf, ren, AV.one, stoOf, slTrees, AV.asOwn, rowPart, AV.isNil, rowS] <;> assumption) (by simp [keysOf, ren]) (by simp [stoOf, keysOf, ren]) (by simp [keysOf, ren]) (by simp [keysOf, ren]))
      · rw [tailP_on c b cur rest hb] at hinv
        have d1 : decide (b.toNat = c.toNat) = false := decide_eq_false (fun e => hb (UInt8.toNat_inj.1 e))
        have e1 : IntKind.i64.wrap (((pre.length + 1 : Nat) : Int) - 1) = (pre.length : Int) := by rw [wrap_i64_of (by omega) (by omega)]; omega
        have e2 : IntKind.i64.wrap ((p : Int) + 1) = ((p + 1 : Nat) : Int) := by rw [wrap_i64_of (by omega) (by omega)]; omega
        have ei' : ((p + 1 : Nat) : Int) = ((s.size - rest.length : Nat) : Int) := by omega
        have hlt : ((pre.length : Int) < ((pre.length + 1 : Nat) : Int)) = True := eq_true (by omega)
        have hget : ((pre ++ [cur]).map rowS)[pre.length]? = some [.v (.string cur)] := by simp [rowS]
        have hset : ∀ x, ((pre ++ [cur]).map rowS).set pre.length [.v (.string x)] = ((pre ++ [x]).map rowS) := by intro x; simp [rowS]
        have hx := extract_one hg
        have hadd : binStr .add cur (toB [b]) = some (.string (cur ++ toB [b])) := by
          have e : (toB [b]).size = 1 := rfl
          have em : IntKind.i64.max = 9223372036854775807 := rfl
          simp only [binStr, e, em]
          rw [if_neg (by omega)]
        have c1 : ((p : Int) ≤ ((p + 1 : Nat) : Int)) = True := eq_true (by omega)
        have c2 : (((p + 1 : Nat) : Int) ≤ (s.size : Int)) = True := eq_true (by omega)
        simp only [go_sem, d0, hg, d1, e1, e2, hlt, hget, hset, hx, hadd, c1, c2, ↓reduceIte, Nat.reduceEqDiff, Nat.reduceAdd, Nat.reduceLeDiff, reduceCtorEq, Nat.reduceLT, Int.reduceLT, Int.reduceLE, Int.reduceEq, Int.reduceToNat, Nat.reduceMul]
        ((try (with_reducible refine R_fin (by repeat' (first | exact okp0 | refine okp rfl rfl rfl ?_)) ?_)); (try simp only [go_sem, d0, hg, d1, e1, e2, hlt, hget, hset, hx, hadd, c1, c2, ↓reduceIte, Nat.reduceEqDiff, Nat.reduceAdd, Nat.reduceLeDiff, reduceCtorEq, Nat.reduceLT, Int.reduceLT, Int.reduceLE, Int.reduceEq, Int.reduceToNat, Nat.reduceMul]))
        have : (toB [b]).size = 1 := rfl
        have hsz : (cur ++ toB [b]).size = cur.size + 1 := by rw [ByteArray.size_append, this]
        refine rd_of (pre, cur ++ toB [b], rest) (by simp) ⟨hsuf.tail, ⟨by simp only; omega, by simp only [hsz]; omega⟩, hinv⟩ ?_
        rw [ei']
        exact (subL [(999, 999)] [] (by simp [envS, go_sem, wkV, wkL, AV.ids, idsL, keysOf, ren, stoOf, slTrees, AV.asOwn, rowPart, AV.isNil, rowS] <;> assumption) (by simp [stoS, go_sem, wkV, wkL, wkO, AV.ids, Ob.ids, idsL, keysOf, ren, AV.one, stoOf, slTrees, AV.asOwn, rowPart, AV.isNil, rowS] <;> assumption) (by simp [keysOf, ren]) (by simp [stoOf, keysOf, ren]) (by simp [keysOf, ren]) (by simp [keysOf, ren]))

end Go.Proofs.YtcadhlakhdndjaaDoor
