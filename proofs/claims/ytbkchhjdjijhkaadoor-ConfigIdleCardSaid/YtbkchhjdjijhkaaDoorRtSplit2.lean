/- A text's parts, the document's way. No statement of the seat is proved here. -/
import Derived.Test.YtbkchhjdjijhkaaDoorRtSplit
import Derived.Test.YtbkchhjdjijhkaaDoorSxH
set_option linter.unusedSimpArgs false
set_option linter.unusedVariables false
namespace Go.Proofs.YtbkchhjdjijhkaaDoor
open Go Go.Sx

def toB (l : List UInt8) : ByteArray := ⟨l.toArray⟩

def rowS (x : ByteArray) : List T := [.v (.string x)]

theorem rowS_get (x : ByteArray) : (rowS x)[0]? = some (.v (.string x)) := rfl

/-- A text's parts, as a row of strings. -/
def partsV (c : UInt8) (l : List UInt8) : AV := .t (.sl 1 ((partsB c l).map fun x => rowS (toB x)))

theorem toB_data (l : List UInt8) : (toB l).data.toList = l := rfl

theorem toB_app (x : ByteArray) (a : UInt8) (l : List UInt8) : x ++ toB [a] ++ toB l = x ++ toB (a :: l) := by
  apply bytes_ext
  simp [toB]

theorem toB_nil (x : ByteArray) : x ++ toB [] = x := by
  apply bytes_ext
  simp [toB]

theorem nil_toB (l : List UInt8) : bs [] ++ toB l = toB l := by
  apply bytes_ext
  simp [toB, bs]

theorem toB_cons (a : UInt8) (l : List UInt8) : toB [a] ++ toB l = toB (a :: l) := by
  apply bytes_ext
  simp [toB]

theorem toB_append (a l : List UInt8) : toB a ++ toB l = toB (a ++ l) := by
  apply bytes_ext
  simp [toB]

theorem strT (l : List UInt8) : binStr .eql (toB l) (bs []) = some (.bool (l.isEmpty)) := by
  have hn : (bs []).toList = [] := by rw [Lib.toList_data]; rfl
  simp only [binStr]
  congr 2
  rw [hn, Lib.toList_data, toB_data]
  cases l <;> rfl

theorem addT (a l : List UInt8) (h : a.length + l.length ≤ 9223372036854775807) : binStr .add (toB a) (toB l) = some (.string (toB (a ++ l))) := by
  have e1 : (toB a).size = a.length := rfl
  have e2 : (toB l).size = l.length := rfl
  have em : IntKind.i64.max = 9223372036854775807 := rfl
  simp only [binStr, e1, e2, em]
  rw [if_neg (by omega), toB_append]

theorem eqN (b c : UInt8) : decide (b.toNat = c.toNat) = (b == c) := by
  by_cases h : b = c
  · subst h; simp
  · rw [decide_eq_false (fun e => h (UInt8.toNat_inj.1 e))]; symm; simpa using h

/-- What is still to come, behind what stands. -/
def tailP (c : UInt8) (cur : ByteArray) (rest : List UInt8) : List ByteArray := match partsB c rest with
  | p :: ps => (cur ++ toB p) :: ps.map toB
  | [] => []

theorem tailP_nil (c : UInt8) (cur : ByteArray) : tailP c cur [] = [cur] := by simp [tailP, partsB, toB_nil]

theorem tailP_at (c : UInt8) (cur : ByteArray) (rest : List UInt8) : tailP c cur (c :: rest) = cur :: tailP c (bs []) rest := by
  have hne := partsB_ne c rest
  unfold tailP
  simp only [partsB, if_pos]
  generalize partsB c rest = ps at *
  cases ps with
  | nil => exact absurd rfl hne
  | cons p ps => simp [toB_nil, nil_toB]

theorem tailP_on (c b : UInt8) (cur : ByteArray) (rest : List UInt8) (h : ¬ b = c) : tailP c cur (b :: rest) = tailP c (cur ++ toB [b]) rest := by
  have hne := partsB_ne c rest
  unfold tailP
  simp only [partsB, if_neg h]
  generalize partsB c rest = ps at *
  cases ps with
  | nil => exact absurd rfl hne
  | cons p ps => simp [toB_app]

theorem extract_one {s : ByteArray} {b : UInt8} {p : Nat} (h : s[p]? = some b) : s.extract p (p + 1) = toB [b] := by
  apply bytes_ext
  rw [ba_get] at h
  obtain ⟨hi, hb⟩ := List.getElem?_eq_some_iff.1 h
  have : (s.extract p (p + 1)).data.toList = (s.data.toList.drop p).take 1 := by
    simp [ByteArray.extract, ByteArray.copySlice]
  rw [this, toB_data, ← hb, List.drop_eq_getElem_cons hi]
  simp

end Go.Proofs.YtbkchhjdjijhkaaDoor
