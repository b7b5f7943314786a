/- Names, keys, blanks of a configuration: contracts. No statement of the seat is proved here. -/
import Derived.Test.YtbkchhjdjijhkaaDoorCfMath
import Derived.Test.YtbkchhjdjijhkaaDoorSxH
import Derived.Shelf.Strings.SlTrimAscii
set_option linter.unusedSimpArgs false
set_option linter.unusedVariables false
namespace Go.Proofs.YtbkchhjdjijhkaaDoor
open Go Go.Sx Go.RowKit Go.Shelf

theorem f_Trim_blank (l : List UInt8) (hl : l.length ≤ 9223372036854775807) : Meets Tryd.prog E0 n_strings_Trim [Str (toB l), Str (toB [32, 9])] [] (Str (toB (cfTrim l))) [] := by
  refine meets_lib (vals := [.string (toB l), .string (toB [32, 9])]) (v := .string (toB (cfTrim l))) (enters_of Tryd.func35 (by kernel_rfl) rfl) (fun A φ w => by simp only [CA, CT]; exact ⟨trivial, rfl⟩) rfl ?_
  intro w hE
  refine Calls.mono (Go.Proofs.Any.strings_Trim_laid Go.Proofs.Tryd.laysTrim (by kernel_rfl) (toB l) (toB [32, 9]) w hl (by decide) (ascii_of_all (by decide))) ?_
  rintro e w' ⟨rfl, hb⟩
  exact ⟨rfl, grown_of_below hb (fun h => h)⟩

theorem f_config_trim (l : List UInt8) (hl : l.length ≤ 4611686018427387904) : Meets Tryd.prog E0 n_config_trim [Str (toB l)] [] (Str (toB (cfTrim l))) [] := by
  refine m_config_trim (by simp) (shut0 rfl) (shut0 rfl) (by simp) (by simp [keysOf]) ?_
  simp only [go_sem, s_config_trim, ↓reduceIte, Nat.reduceEqDiff, Nat.reduceAdd, Nat.reduceLeDiff, reduceCtorEq, Nat.reduceLT, Int.reduceLT, Int.reduceLE, Int.reduceEq, Int.reduceToNat, Nat.reduceMul]
  refine Cl_plain (f_Trim_blank l (by omega)) ?_
  simp only [go_sem, ↓reduceIte, Nat.reduceEqDiff, Nat.reduceAdd, Nat.reduceLeDiff, reduceCtorEq, Nat.reduceLT, Int.reduceLT, Int.reduceLE, Int.reduceEq, Int.reduceToNat, Nat.reduceMul]
  refine wends (by first | exact Or.inl rfl | exact Or.inr rfl) ?_ (by first | rfl | simp [AV.ids, idsL])
  simp only [go_sem, r_config_trim, ↓reduceIte, Nat.reduceEqDiff, Nat.reduceAdd, Nat.reduceLeDiff, reduceCtorEq, Nat.reduceLT, Int.reduceLT, Int.reduceLE, Int.reduceEq, Int.reduceToNat, Nat.reduceMul]

theorem neE (l : List UInt8) : binStr .neq (toB l) (bs []) = some (.bool (!l.isEmpty)) := by
  have hn : (bs []).toList = [] := by rw [Lib.toList_data]; rfl
  simp only [binStr]
  congr 2
  rw [hn, Lib.toList_data, toB_data]
  cases l <;> rfl

theorem mem_index (l : List UInt8) (c : UInt8) : decide (Lib.indexByte l c < 0) = !l.contains c := by
  by_cases h : l.contains c = true
  · rw [h]
    have hm : c ∈ l := by simpa using h
    refine decide_eq_false (fun hlt => ?_)
    have := (partsB_at c l).1 hlt
    have h2 : ∀ l : List UInt8, c ∈ l → partsB c l ≠ [l] := by
      intro l
      induction l with
      | nil => simp
      | cons b l ih =>
        intro hm
        simp only [partsB]
        by_cases hb : b = c
        · rw [if_pos hb]
          intro e; injection e with e1 e2; cases e1
        · rw [if_neg hb]
          have hm' : c ∈ l := by
            rcases List.mem_cons.1 hm with h | h
            · exact absurd h.symm hb
            · exact h
          have := ih hm'
          have hne := partsB_ne c l
          generalize partsB c l = ps at *
          cases ps with
          | nil => exact absurd rfl hne
          | cons p ps =>
            intro e
            injection e with e1 e2
            injection e1 with e3 e4
            exact this (by rw [e4, e2])
    exact h2 l hm this
  · have h' : l.contains c = false := by simpa using h
    rw [h']
    refine decide_eq_true ?_
    apply Decidable.byContradiction
    intro hlt
    have := index_mem (show 0 ≤ Lib.indexByte l c by omega)
    simp at h'
    exact h' this

theorem f_config_named (l : List UInt8) (hl : l.length ≤ 4611686018427387904) : Meets Tryd.prog E0 n_config_named [Str (toB l)] [] (Bo (cfNamed l)) [] := by
  refine m_config_named (by simp) (shut0 rfl) (shut0 rfl) (by simp) (by simp [keysOf]) ?_
  have en := neE l
  have hix : Meets Tryd.prog E0 n_strings_IndexByte [Str (toB l), B8 (UInt8.toNat 93)] [] (I (Lib.indexByte l 93)) [] := f_IndexByte (toB l) 93
  have hm := mem_index l 93
  have e93 : ((UInt8.toNat 93 : Nat) : Int) = 93 := rfl
  unfold cfNamed
  cases l with
  | nil =>
    simp only [go_sem, s_config_named, en, List.isEmpty_nil, ↓reduceIte, Nat.reduceEqDiff, Nat.reduceAdd, Nat.reduceLeDiff, reduceCtorEq, Nat.reduceLT, Int.reduceLT, Int.reduceLE, Int.reduceEq, Int.reduceToNat, Nat.reduceMul]
    refine wends (by first | exact Or.inl rfl | exact Or.inr rfl) ?_ (by first | rfl | simp [AV.ids, idsL])
    simp only [go_sem, r_config_named, ↓reduceIte, Nat.reduceEqDiff, Nat.reduceAdd, Nat.reduceLeDiff, reduceCtorEq, Nat.reduceLT, Int.reduceLT, Int.reduceLE, Int.reduceEq, Int.reduceToNat, Nat.reduceMul]
    first | done | rfl
  | cons b r =>
    have hs : (b :: r).length = r.length + 1 := rfl
    have d1 : decide (1 ≤ r.length + 1) = true := decide_eq_true (by omega)
    rw [hs, d1]
    cases d2 : decide ((r.length + 1) ≤ 32)
    · have d3 : decide (((r.length + 1 : Nat) : Int) ≤ 32) = false := decide_eq_false (by have := of_decide_eq_false d2; omega)
      simp only [go_sem, s_config_named, en, List.isEmpty_cons, toB_size, hs, d3, ↓reduceIte, Nat.reduceEqDiff, Nat.reduceAdd, Nat.reduceLeDiff, reduceCtorEq, Nat.reduceLT, Int.reduceLT, Int.reduceLE, Int.reduceEq, Int.reduceToNat, Nat.reduceMul]
      refine wends (by first | exact Or.inl rfl | exact Or.inr rfl) ?_ (by first | rfl | simp [AV.ids, idsL])
      simp only [go_sem, r_config_named, ↓reduceIte, Nat.reduceEqDiff, Nat.reduceAdd, Nat.reduceLeDiff, reduceCtorEq, Nat.reduceLT, Int.reduceLT, Int.reduceLE, Int.reduceEq, Int.reduceToNat, Nat.reduceMul]
      first | done | rfl
    · have d3 : decide (((r.length + 1 : Nat) : Int) ≤ 32) = true := decide_eq_true (by have := of_decide_eq_true d2; omega)
      simp only [go_sem, s_config_named, en, List.isEmpty_cons, toB_size, hs, d3, ↓reduceIte, Nat.reduceEqDiff, Nat.reduceAdd, Nat.reduceLeDiff, reduceCtorEq, Nat.reduceLT, Int.reduceLT, Int.reduceLE, Int.reduceEq, Int.reduceToNat, Nat.reduceMul]
      refine Cl_plain hix ?_
      simp only [go_sem, hm, ↓reduceIte, Nat.reduceEqDiff, Nat.reduceAdd, Nat.reduceLeDiff, reduceCtorEq, Nat.reduceLT, Int.reduceLT, Int.reduceLE, Int.reduceEq, Int.reduceToNat, Nat.reduceMul]
      refine wends (by first | exact Or.inl rfl | exact Or.inr rfl) ?_ (by first | rfl | simp [AV.ids, idsL])
      simp only [go_sem, r_config_named, ↓reduceIte, Nat.reduceEqDiff, Nat.reduceAdd, Nat.reduceLeDiff, reduceCtorEq, Nat.reduceLT, Int.reduceLT, Int.reduceLE, Int.reduceEq, Int.reduceToNat, Nat.reduceMul]
      first | done | rfl

theorem f_config_section (l : List UInt8) (hl : l.length ≤ 4611686018427387904) : Meets Tryd.prog E0 n_config_section [Str (toB l)] [] (.tp [Str (toB (cfSecN l)), Bo (cfSecB l)]) [] := by
  refine m_config_section (by simp) (shut0 rfl) (shut0 rfl) (by simp) (by simp [keysOf]) ?_
  have h1 := f_CutPrefix l 91 hl
  have z1 := front_len 91 l
  have h2 := f_CutSuffix (frontB 91 l) 93 (by omega)
  have z2 := strip_len 93 (frontB 91 l)
  have h3 := f_config_named (stripB 93 (frontB 91 l)) (by omega)
  have e2 : cfSecB l = (headB 91 l && (lastB 93 (frontB 91 l) && cfNamed (stripB 93 (frontB 91 l)))) := rfl
  have e3 : cfSecN l = stripB 93 (frontB 91 l) := rfl
  rw [e2, e3]
  generalize lastB 93 (frontB 91 l) = b2 at *
  generalize stripB 93 (frontB 91 l) = n at *
  generalize headB 91 l = b1 at *
  simp only [go_sem, s_config_section, ↓reduceIte, Nat.reduceEqDiff, Nat.reduceAdd, Nat.reduceLeDiff, reduceCtorEq, Nat.reduceLT, Int.reduceLT, Int.reduceLE, Int.reduceEq, Int.reduceToNat, Nat.reduceMul]
  refine Cl_plain h1 ?_
  simp only [go_sem, ↓reduceIte, Nat.reduceEqDiff, Nat.reduceAdd, Nat.reduceLeDiff, reduceCtorEq, Nat.reduceLT, Int.reduceLT, Int.reduceLE, Int.reduceEq, Int.reduceToNat, Nat.reduceMul]
  refine Cl_plain h2 ?_
  cases b1
  · simp only [go_sem, ↓reduceIte, Nat.reduceEqDiff, Nat.reduceAdd, Nat.reduceLeDiff, reduceCtorEq, Nat.reduceLT, Int.reduceLT, Int.reduceLE, Int.reduceEq, Int.reduceToNat, Nat.reduceMul]
    refine wends (by first | exact Or.inl rfl | exact Or.inr rfl) ?_ (by first | rfl | simp [AV.ids, idsL])
    simp only [go_sem, r_config_section, ↓reduceIte, Nat.reduceEqDiff, Nat.reduceAdd, Nat.reduceLeDiff, reduceCtorEq, Nat.reduceLT, Int.reduceLT, Int.reduceLE, Int.reduceEq, Int.reduceToNat, Nat.reduceMul]
  · cases b2
    · simp only [go_sem, ↓reduceIte, Nat.reduceEqDiff, Nat.reduceAdd, Nat.reduceLeDiff, reduceCtorEq, Nat.reduceLT, Int.reduceLT, Int.reduceLE, Int.reduceEq, Int.reduceToNat, Nat.reduceMul]
      refine wends (by first | exact Or.inl rfl | exact Or.inr rfl) ?_ (by first | rfl | simp [AV.ids, idsL])
      simp only [go_sem, r_config_section, ↓reduceIte, Nat.reduceEqDiff, Nat.reduceAdd, Nat.reduceLeDiff, reduceCtorEq, Nat.reduceLT, Int.reduceLT, Int.reduceLE, Int.reduceEq, Int.reduceToNat, Nat.reduceMul]
    · simp only [go_sem, ↓reduceIte, Nat.reduceEqDiff, Nat.reduceAdd, Nat.reduceLeDiff, reduceCtorEq, Nat.reduceLT, Int.reduceLT, Int.reduceLE, Int.reduceEq, Int.reduceToNat, Nat.reduceMul]
      refine Cl_plain h3 ?_
      simp only [go_sem, ↓reduceIte, Nat.reduceEqDiff, Nat.reduceAdd, Nat.reduceLeDiff, reduceCtorEq, Nat.reduceLT, Int.reduceLT, Int.reduceLE, Int.reduceEq, Int.reduceToNat, Nat.reduceMul]
      refine wends (by first | exact Or.inl rfl | exact Or.inr rfl) ?_ (by first | rfl | simp [AV.ids, idsL])
      simp only [go_sem, r_config_section, ↓reduceIte, Nat.reduceEqDiff, Nat.reduceAdd, Nat.reduceLeDiff, reduceCtorEq, Nat.reduceLT, Int.reduceLT, Int.reduceLE, Int.reduceEq, Int.reduceToNat, Nat.reduceMul]

theorem f_config_keyed (l : List UInt8) (hl : l.length ≤ 4611686018427387904) : Meets Tryd.prog E0 n_config_keyed [Str (toB l)] [] (Bo (cfKeyed l)) [] := by
  refine m_config_keyed (by simp) (shut0 rfl) (shut0 rfl) (by simp) (by simp [keysOf]) ?_
  simp only [go_sem, s_config_keyed, toB_size, ↓reduceIte, Nat.reduceEqDiff, Nat.reduceAdd, Nat.reduceLeDiff, reduceCtorEq, Nat.reduceLT, Int.reduceLT, Int.reduceLE, Int.reduceEq, Int.reduceToNat, Nat.reduceMul]
  refine W_loop (fun i : Nat => l.length - i) (fun i => i ≤ l.length ∧ (l.drop i).all letterB = l.all letterB) (fun i => [(0, Str (toB l)), (6, I (l.length : Nat)), (7, I i)]) (fun _ => []) 0 ⟨Nat.zero_le _, by simp⟩ (subL [] [] (by simp [envS, go_sem, wkV, wkL, AV.ids, idsL, keysOf, ren, stoOf, slTrees, AV.asOwn, rowPart, AV.isNil, shA, rowsT, cellsT, cellT, wkLL] <;> assumption) (by simp [stoS, go_sem, wkV, wkL, wkO, AV.ids, Ob.ids, idsL, keysOf, ren, AV.one, stoOf, slTrees, AV.asOwn, rowPart, AV.isNil, shA, rowsT, cellsT, cellT, wkLL] <;> assumption) (by simp [keysOf, ren]) (by simp [stoOf, keysOf, ren]) (by simp [keysOf, ren]) (by simp [keysOf, ren])) ?_
  rintro i ⟨hi, hall⟩
  by_cases hil : i < l.length
  · have d0 : decide (i < l.length) = true := decide_eq_true hil
    obtain ⟨b, hb⟩ := get_of_lt hil
    have hg : (toB l)[i]? = some b := by rw [getT]; exact hb
    rw [drop_get hb, List.all_cons] at hall
    have ei : IntKind.i64.wrap ((i : Int) + 1) = ((i + 1 : Nat) : Int) := by rw [wrap_i64_of (by omega) (by omega)]; omega
    have hle := letter_eq b
    have em : (b.toNat % 256 ||| 32 % 256) = b.toNat ||| 32 := by rw [Nat.mod_eq_of_lt (u8_lt b)]
    generalize b.toNat ||| 32 = x at *
    cases hlb : letterB b
    · rw [hlb] at hle hall
      have hk : cfKeyed l = false := by unfold cfKeyed; rw [← hall]; simp
      rw [hk]
      cases d1 : decide (x < 97)
      · have d2 : decide (122 < x) = true := by
          have h1 := of_decide_eq_false d1
          rw [decide_eq_true (show 97 ≤ x by omega), Bool.true_and] at hle
          have := of_decide_eq_false hle
          exact decide_eq_true (by omega)
        simp only [go_sem, d0, hg, ei, em, d1, d2, ↓reduceIte, Nat.reduceEqDiff, Nat.reduceAdd, Nat.reduceLeDiff, reduceCtorEq, Nat.reduceLT, Int.reduceLT, Int.reduceLE, Int.reduceEq, Int.reduceToNat, Nat.reduceMul]
        refine wends (by first | exact Or.inl rfl | exact Or.inr rfl) ?_ (by first | rfl | simp [AV.ids, idsL])
        simp only [go_sem, r_config_keyed, ↓reduceIte, Nat.reduceEqDiff, Nat.reduceAdd, Nat.reduceLeDiff, reduceCtorEq, Nat.reduceLT, Int.reduceLT, Int.reduceLE, Int.reduceEq, Int.reduceToNat, Nat.reduceMul]
      · simp only [go_sem, d0, hg, ei, em, d1, ↓reduceIte, Nat.reduceEqDiff, Nat.reduceAdd, Nat.reduceLeDiff, reduceCtorEq, Nat.reduceLT, Int.reduceLT, Int.reduceLE, Int.reduceEq, Int.reduceToNat, Nat.reduceMul]
        refine wends (by first | exact Or.inl rfl | exact Or.inr rfl) ?_ (by first | rfl | simp [AV.ids, idsL])
        simp only [go_sem, r_config_keyed, ↓reduceIte, Nat.reduceEqDiff, Nat.reduceAdd, Nat.reduceLeDiff, reduceCtorEq, Nat.reduceLT, Int.reduceLT, Int.reduceLE, Int.reduceEq, Int.reduceToNat, Nat.reduceMul]
    · rw [hlb] at hle hall
      rw [Bool.true_and] at hall
      rw [Bool.and_eq_true, decide_eq_true_eq, decide_eq_true_eq] at hle
      have d1 : decide (x < 97) = false := decide_eq_false (by omega)
      have d2 : decide (122 < x) = false := decide_eq_false (by omega)
      simp only [go_sem, d0, hg, ei, em, d1, d2, ↓reduceIte, Nat.reduceEqDiff, Nat.reduceAdd, Nat.reduceLeDiff, reduceCtorEq, Nat.reduceLT, Int.reduceLT, Int.reduceLE, Int.reduceEq, Int.reduceToNat, Nat.reduceMul]
      exact rd_of (i + 1) (by first | omega | (simp only; omega)) ⟨hil, hall⟩ (subL [] [] (by simp [envS, go_sem, wkV, wkL, AV.ids, idsL, keysOf, ren, stoOf, slTrees, AV.asOwn, rowPart, AV.isNil, shA, rowsT, cellsT, cellT, wkLL] <;> assumption) (by simp [stoS, go_sem, wkV, wkL, wkO, AV.ids, Ob.ids, idsL, keysOf, ren, AV.one, stoOf, slTrees, AV.asOwn, rowPart, AV.isNil, shA, rowsT, cellsT, cellT, wkLL] <;> assumption) (by simp [keysOf, ren]) (by simp [stoOf, keysOf, ren]) (by simp [keysOf, ren]) (by simp [keysOf, ren]))
  · obtain rfl : i = l.length := by omega
    have d0 : decide (l.length < l.length) = false := decide_eq_false (by omega)
    have en := neE l
    rw [List.drop_length, List.all_nil] at hall
    have hk : cfKeyed l = (!l.isEmpty && decide (l.length ≤ 32)) := by
      unfold cfKeyed
      rw [← hall, Bool.and_true]
      cases l <;> simp
    have d3 : decide ((l.length : Int) ≤ 32) = decide (l.length ≤ 32) := decide_eq_decide.2 (by omega)
    rw [hk]
    cases he : l.isEmpty
    · rw [he] at en
      simp only [go_sem, d0, en, toB_size, d3, ↓reduceIte, Nat.reduceEqDiff, Nat.reduceAdd, Nat.reduceLeDiff, reduceCtorEq, Nat.reduceLT, Int.reduceLT, Int.reduceLE, Int.reduceEq, Int.reduceToNat, Nat.reduceMul]
      refine wends (by first | exact Or.inl rfl | exact Or.inr rfl) ?_ (by first | rfl | simp [AV.ids, idsL])
      simp only [go_sem, r_config_keyed, ↓reduceIte, Nat.reduceEqDiff, Nat.reduceAdd, Nat.reduceLeDiff, reduceCtorEq, Nat.reduceLT, Int.reduceLT, Int.reduceLE, Int.reduceEq, Int.reduceToNat, Nat.reduceMul]
      first | done | rfl
    · rw [he] at en
      simp only [go_sem, d0, en, ↓reduceIte, Nat.reduceEqDiff, Nat.reduceAdd, Nat.reduceLeDiff, reduceCtorEq, Nat.reduceLT, Int.reduceLT, Int.reduceLE, Int.reduceEq, Int.reduceToNat, Nat.reduceMul]
      refine wends (by first | exact Or.inl rfl | exact Or.inr rfl) ?_ (by first | rfl | simp [AV.ids, idsL])
      simp only [go_sem, r_config_keyed, ↓reduceIte, Nat.reduceEqDiff, Nat.reduceAdd, Nat.reduceLeDiff, reduceCtorEq, Nat.reduceLT, Int.reduceLT, Int.reduceLE, Int.reduceEq, Int.reduceToNat, Nat.reduceMul]
      first | done | rfl

theorem extD (l : List UInt8) (n : Nat) : (toB l).extract n (toB l).size = toB (l.drop n) := by
  rw [extT, toB_size, List.take_length]

theorem f_config_pair (l : List UInt8) (hl : l.length ≤ 1000000000) : Meets Tryd.prog E0 n_config_pair [Str (toB l)] [] (.tp [.ag [Str (toB (cfPair l).1.1), Str (toB (cfPair l).1.2)], Bo (cfPair l).2]) [] := by
  refine m_config_pair (by simp) (shut0 rfl) (shut0 rfl) (by simp) (by simp [keysOf]) ?_
  have hC := f_Cut (toB l) 61 (by show l.length ≤ _; omega)
  unfold cutB at hC
  rw [toB_data] at hC
  unfold cfPair
  have hat := partsB_at 61 l
  generalize Lib.indexByte l 61 = i at *
  by_cases hi : 0 ≤ i
  · obtain ⟨n, rfl⟩ : ∃ n : Nat, i = n := ⟨i.toNat, by omega⟩
    rw [if_pos hi] at hC ⊢
    simp only [Int.toNat_natCast] at hC ⊢
    have e1 : (toB l).extract 0 n = toB (l.take n) := by rw [extT]; rfl
    rw [e1, extD] at hC
    have h1 := f_config_trim (l.take n) (by simp; omega)
    have h2 := f_config_trim (l.drop (n + 1)) (by simp; omega)
    have z1 := trimS_len (l.take n) [32, 9]
    have h3 := f_config_keyed (cfTrim (l.take n)) (by unfold cfTrim; simp at z1; omega)
    simp only [go_sem, s_config_pair, ↓reduceIte, Nat.reduceEqDiff, Nat.reduceAdd, Nat.reduceLeDiff, reduceCtorEq, Nat.reduceLT, Int.reduceLT, Int.reduceLE, Int.reduceEq, Int.reduceToNat, Nat.reduceMul]
    refine Cl_plain hC ?_
    simp only [go_sem, ↓reduceIte, Nat.reduceEqDiff, Nat.reduceAdd, Nat.reduceLeDiff, reduceCtorEq, Nat.reduceLT, Int.reduceLT, Int.reduceLE, Int.reduceEq, Int.reduceToNat, Nat.reduceMul]
    refine Cl_plain h1 ?_
    simp only [go_sem, ↓reduceIte, Nat.reduceEqDiff, Nat.reduceAdd, Nat.reduceLeDiff, reduceCtorEq, Nat.reduceLT, Int.reduceLT, Int.reduceLE, Int.reduceEq, Int.reduceToNat, Nat.reduceMul]
    refine Cl_plain h2 ?_
    simp only [go_sem, ↓reduceIte, Nat.reduceEqDiff, Nat.reduceAdd, Nat.reduceLeDiff, reduceCtorEq, Nat.reduceLT, Int.reduceLT, Int.reduceLE, Int.reduceEq, Int.reduceToNat, Nat.reduceMul]
    refine Cl_plain h3 ?_
    simp only [go_sem, ↓reduceIte, Nat.reduceEqDiff, Nat.reduceAdd, Nat.reduceLeDiff, reduceCtorEq, Nat.reduceLT, Int.reduceLT, Int.reduceLE, Int.reduceEq, Int.reduceToNat, Nat.reduceMul]
    ((try (with_reducible refine R_fin (by repeat' (first | exact okp0 | refine okp rfl rfl rfl ?_)) ?_)); (try simp only [go_sem, ↓reduceIte, Nat.reduceEqDiff, Nat.reduceAdd, Nat.reduceLeDiff, reduceCtorEq, Nat.reduceLT, Int.reduceLT, Int.reduceLE, Int.reduceEq, Int.reduceToNat, Nat.reduceMul]))
    refine wends (by first | exact Or.inl rfl | exact Or.inr rfl) ?_ (by first | rfl | simp [AV.ids, idsL])
    simp only [go_sem, r_config_pair, ↓reduceIte, Nat.reduceEqDiff, Nat.reduceAdd, Nat.reduceLeDiff, reduceCtorEq, Nat.reduceLT, Int.reduceLT, Int.reduceLE, Int.reduceEq, Int.reduceToNat, Nat.reduceMul]
  · rw [if_neg hi] at hC ⊢
    have h1 := f_config_trim l (by omega)
    have h2 := f_config_trim [] (by simp)
    have e0 : (⟨#[]⟩ : ByteArray) = toB [] := rfl
    rw [e0] at hC
    have e3 : cfTrim [] = [] := rfl
    rw [e3] at h2
    simp only [go_sem, s_config_pair, ↓reduceIte, Nat.reduceEqDiff, Nat.reduceAdd, Nat.reduceLeDiff, reduceCtorEq, Nat.reduceLT, Int.reduceLT, Int.reduceLE, Int.reduceEq, Int.reduceToNat, Nat.reduceMul]
    refine Cl_plain hC ?_
    simp only [go_sem, ↓reduceIte, Nat.reduceEqDiff, Nat.reduceAdd, Nat.reduceLeDiff, reduceCtorEq, Nat.reduceLT, Int.reduceLT, Int.reduceLE, Int.reduceEq, Int.reduceToNat, Nat.reduceMul]
    refine Cl_plain h1 ?_
    simp only [go_sem, ↓reduceIte, Nat.reduceEqDiff, Nat.reduceAdd, Nat.reduceLeDiff, reduceCtorEq, Nat.reduceLT, Int.reduceLT, Int.reduceLE, Int.reduceEq, Int.reduceToNat, Nat.reduceMul]
    refine Cl_plain h2 ?_
    simp only [go_sem, ↓reduceIte, Nat.reduceEqDiff, Nat.reduceAdd, Nat.reduceLeDiff, reduceCtorEq, Nat.reduceLT, Int.reduceLT, Int.reduceLE, Int.reduceEq, Int.reduceToNat, Nat.reduceMul]
    ((try (with_reducible refine R_fin (by repeat' (first | exact okp0 | refine okp rfl rfl rfl ?_)) ?_)); (try simp only [go_sem, ↓reduceIte, Nat.reduceEqDiff, Nat.reduceAdd, Nat.reduceLeDiff, reduceCtorEq, Nat.reduceLT, Int.reduceLT, Int.reduceLE, Int.reduceEq, Int.reduceToNat, Nat.reduceMul]))
    refine wends (by first | exact Or.inl rfl | exact Or.inr rfl) ?_ (by first | rfl | simp [AV.ids, idsL])
    simp only [go_sem, r_config_pair, ↓reduceIte, Nat.reduceEqDiff, Nat.reduceAdd, Nat.reduceLeDiff, reduceCtorEq, Nat.reduceLT, Int.reduceLT, Int.reduceLE, Int.reduceEq, Int.reduceToNat, Nat.reduceMul]

end Go.Proofs.YtbkchhjdjijhkaaDoor
