/- Texts as lists of bytes. No statement of the seat is proved here. -/
import Derived.Test.YtbkchhjdjijhkaaDoorSlim
import Derived.Test.YtbkchhjdjijhkaaDoorSxH
set_option linter.unusedSimpArgs false
set_option linter.unusedVariables false
namespace Go.Proofs.YtbkchhjdjijhkaaDoor
open Go Go.Sx

theorem ba_get (s : ByteArray) (i : Nat) : s[i]? = s.data.toList[i]? := by
  by_cases h : i < s.size
  · rw [getElem?_pos s i h]
    have h2 : i < s.data.toList.length := by simpa using h
    rw [List.getElem?_eq_getElem h2]
    rfl
  · rw [getElem?_neg s i h, List.getElem?_eq_none (by simpa using h)]

theorem ba_len (s : ByteArray) : s.data.toList.length = s.size := by simp

/-- What is left of a text. -/
def Suf (s : ByteArray) (rest : List UInt8) : Prop := rest <:+ s.data.toList

theorem Suf.len {s : ByteArray} {rest : List UInt8} (h : Suf s rest) : rest.length ≤ s.size := by
  have := h.length_le; rwa [ba_len] at this

theorem Suf.all (s : ByteArray) : Suf s s.data.toList := List.suffix_refl _

theorem Suf.tail {s : ByteArray} {c : UInt8} {rest : List UInt8} (h : Suf s (c :: rest)) : Suf s rest := (List.suffix_cons c rest).trans h

theorem Suf.get {s : ByteArray} {rest : List UInt8} (h : Suf s rest) (k : Nat) : s[s.size - rest.length + k]? = rest[k]? := by
  obtain ⟨pre, hp⟩ := h
  have hl : pre.length + rest.length = s.size := by rw [← ba_len, ← hp]; simp
  rw [ba_get, ← hp, List.getElem?_append_right (by omega)]
  congr 1; omega

theorem u8_lt (c : UInt8) : c.toNat < 256 := UInt8.toNat_lt c

theorem get_of_lt {α : Type} {l : List α} {i : Nat} (h : i < l.length) : ∃ s, l[i]? = some s := ⟨l[i], List.getElem?_eq_getElem h⟩

theorem drop_get {α : Type} {l : List α} {i : Nat} {s : α} (h : l[i]? = some s) : l.drop i = s :: l.drop (i + 1) := by
  obtain ⟨hi, rfl⟩ := List.getElem?_eq_some_iff.1 h
  exact List.drop_eq_getElem_cons hi

end Go.Proofs.YtbkchhjdjijhkaaDoor
