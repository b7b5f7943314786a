/- The library's functions on texts. No statement of the seat is proved here. -/
import Derived.Test.YtbkchhjdjijhkaaDoorLbPure
import Derived.Test.YtbkchhjdjijhkaaDoorRtNum
import Derived.Test.YtbkchhjdjijhkaaDoorShelf
import Derived.Shelf.Small.Strs
import Derived.Shelf.Strings.Trim
import Derived.Shelf.Strings.Search3
set_option linter.unusedSimpArgs false
set_option linter.unusedVariables false
namespace Go.Proofs.YtbkchhjdjijhkaaDoor
open Go Go.Sx Go.RowKit Go.Shelf

theorem f_IndexByte (s : ByteArray) (c : UInt8) : Meets Tryd.prog E0 n_strings_IndexByte [Str s, B8 c.toNat] [] (I (Lib.indexByte s.data.toList c)) [] := by
  refine meets_lib (vals := [.string s, .int .u8 c.toNat]) (v := .int .i64 (Lib.indexByte s.data.toList c)) (enters_of Tryd.func40 (by kernel_rfl) rfl) (fun A φ w => by simp only [CA, CT]; exact ⟨trivial, rfl⟩) rfl ?_
  intro w _
  have h := Go.Proofs.Any.strings_IndexByte Go.Proofs.Tryd.laysIndexByte s (c.toNat : Int) w
  refine Calls.mono h ?_
  rintro e w' ⟨rfl, rfl⟩
  exact ⟨by simp, Grown.refl _⟩

theorem f_Trim_one (s : ByteArray) (c : UInt8) (hc : c.toNat < 128) (hs : s.size ≤ 9223372036854775807) : Meets Tryd.prog E0 n_strings_Trim [Str s, Str ⟨#[c]⟩] [] (Str ⟨(Lib.trimB s.data.toList c).toArray⟩) [] := by
  refine meets_lib (vals := [.string s, .string ⟨#[c]⟩]) (v := .string ⟨(Lib.trimB s.data.toList c).toArray⟩) (enters_of Tryd.func35 (by kernel_rfl) rfl) (fun A φ w => by simp only [CA, CT]; exact ⟨trivial, rfl⟩) rfl ?_
  intro w _
  refine Calls.mono (Go.Proofs.Any.strings_Trim_one Go.Proofs.Tryd.laysTrim s c hc w hs) ?_
  rintro e w' ⟨rfl, rfl | rfl⟩
  · exact ⟨rfl, Grown.refl _⟩
  · exact ⟨rfl, ⟨rfl, rfl, rfl, fun _ => Nat.le_succ _, Nat.le_refl _, fun _ _ => rfl⟩⟩

theorem f_Index_in (s : ByteArray) (c : UInt8) : Meets Tryd.prog E0 n_stringslite_Index [Str s, Str ⟨#[c]⟩] [] (I (Lib.indexByte s.data.toList c)) [] := by
  refine meets_lib (vals := [.string s, .string ⟨#[c]⟩]) (v := .int .i64 (Lib.indexByte s.data.toList c)) (enters_of Tryd.func56 (by kernel_rfl) rfl) (fun A φ w => by simp only [CA, CT]; exact ⟨trivial, rfl⟩) rfl ?_
  intro w _
  refine Calls.mono (Go.Proofs.Any.stringslite_Index_one Go.Proofs.Tryd.laysIndexIn s c w) ?_
  rintro e w' ⟨rfl, rfl⟩
  exact ⟨rfl, Grown.refl _⟩

/-- A text around the first of a byte. -/
def cutB (s : ByteArray) (c : UInt8) : ByteArray × ByteArray × Bool :=
  if 0 ≤ Lib.indexByte s.data.toList c then (s.extract 0 (Lib.indexByte s.data.toList c).toNat, s.extract ((Lib.indexByte s.data.toList c).toNat + 1) s.size, true) else (s, ⟨#[]⟩, false)

theorem f_Cut_in (s : ByteArray) (c : UInt8) (hs : s.size ≤ 4611686018427387904) : Meets Tryd.prog E0 n_stringslite_Cut [Str s, Str ⟨#[c]⟩] [] (.tp [Str (cutB s c).1, Str (cutB s c).2.1, Bo (cutB s c).2.2]) [] := by
  refine m_stringslite_Cut (by simp) (shut0 rfl) (shut0 rfl) (by simp) (by simp [keysOf]) ?_
  simp only [go_sem, s_stringslite_Cut, ↓reduceIte, Nat.reduceEqDiff, Nat.reduceAdd, Nat.reduceLeDiff, reduceCtorEq, Nat.reduceLT, Int.reduceLT, Int.reduceLE, Int.reduceEq, Int.reduceToNat, Nat.reduceMul]
  refine Cl_plain (f_Index_in s c) ?_
  have hp := partsB_at c s.data.toList
  unfold cutB
  generalize Lib.indexByte s.data.toList c = i at *
  rw [ba_len] at hp
  by_cases h0 : 0 ≤ i
  · have d0 : decide (0 ≤ i) = true := by simp; omega
    obtain ⟨n, rfl⟩ : ∃ n : Nat, i = n := ⟨i.toNat, by omega⟩
    have hlt := (hp.2 h0).1
    simp only [Int.toNat_natCast] at hlt
    have w1 : IntKind.i64.wrap ((n : Int) + ((1 : Nat) : Int)) = ((n + 1 : Nat) : Int) := by rw [wrap_i64_of (by omega) (by omega)]; omega
    have hsz : (⟨#[c]⟩ : ByteArray).size = 1 := rfl
    have b1 : (n : Int) ≤ (s.size : Int) := by omega
    have b2 : ((n + 1 : Nat) : Int) ≤ (s.size : Int) := by omega
    simp only [go_sem, d0, hsz, w1, b1, b2, ↓reduceIte, Nat.reduceEqDiff, Nat.reduceAdd, Nat.reduceLeDiff, reduceCtorEq, Nat.reduceLT, Int.reduceLT, Int.reduceLE, Int.reduceEq, Int.reduceToNat, Nat.reduceMul]
    refine wends (by first | exact Or.inl rfl | exact Or.inr rfl) ?_ (by first | rfl | simp [AV.ids, idsL])
    simp only [go_sem, r_stringslite_Cut, ↓reduceIte, Nat.reduceEqDiff, Nat.reduceAdd, Nat.reduceLeDiff, reduceCtorEq, Nat.reduceLT, Int.reduceLT, Int.reduceLE, Int.reduceEq, Int.reduceToNat, Nat.reduceMul]
  · have d0 : decide (0 ≤ i) = false := by simp; omega
    rw [if_neg h0]
    simp only [go_sem, d0, ↓reduceIte, Nat.reduceEqDiff, Nat.reduceAdd, Nat.reduceLeDiff, reduceCtorEq, Nat.reduceLT, Int.reduceLT, Int.reduceLE, Int.reduceEq, Int.reduceToNat, Nat.reduceMul]
    refine wends (by first | exact Or.inl rfl | exact Or.inr rfl) ?_ (by first | rfl | simp [AV.ids, idsL])
    simp only [go_sem, r_stringslite_Cut, ↓reduceIte, Nat.reduceEqDiff, Nat.reduceAdd, Nat.reduceLeDiff, reduceCtorEq, Nat.reduceLT, Int.reduceLT, Int.reduceLE, Int.reduceEq, Int.reduceToNat, Nat.reduceMul]
    rfl

theorem f_Cut (s : ByteArray) (c : UInt8) (hs : s.size ≤ 4611686018427387904) : Meets Tryd.prog E0 n_strings_Cut [Str s, Str ⟨#[c]⟩] [] (.tp [Str (cutB s c).1, Str (cutB s c).2.1, Bo (cutB s c).2.2]) [] := by
  refine m_strings_Cut (by simp) (shut0 rfl) (shut0 rfl) (by simp) (by simp [keysOf]) ?_
  simp only [go_sem, s_strings_Cut, ↓reduceIte, Nat.reduceEqDiff, Nat.reduceAdd, Nat.reduceLeDiff, reduceCtorEq, Nat.reduceLT, Int.reduceLT, Int.reduceLE, Int.reduceEq, Int.reduceToNat, Nat.reduceMul]
  refine Cl_plain (f_Cut_in s c hs) ?_
  simp only [go_sem, ↓reduceIte, Nat.reduceEqDiff, Nat.reduceAdd, Nat.reduceLeDiff, reduceCtorEq, Nat.reduceLT, Int.reduceLT, Int.reduceLE, Int.reduceEq, Int.reduceToNat, Nat.reduceMul]
  refine wends (by first | exact Or.inl rfl | exact Or.inr rfl) ?_ (by first | rfl | simp [AV.ids, idsL])
  simp only [go_sem, r_strings_Cut, ↓reduceIte, Nat.reduceEqDiff, Nat.reduceAdd, Nat.reduceLeDiff, reduceCtorEq, Nat.reduceLT, Int.reduceLT, Int.reduceLE, Int.reduceEq, Int.reduceToNat, Nat.reduceMul]

end Go.Proofs.YtbkchhjdjijhkaaDoor
