/- Blanks around a text, and its parts, the document's way. No statement of the seat is proved here. -/
import Derived.Test.YtbkchhjdjijhkaaDoorRtMath
import Derived.Test.YtbkchhjdjijhkaaDoorLbText
import Derived.Test.YtbkchhjdjijhkaaDoorSxH
set_option linter.unusedSimpArgs false
set_option linter.unusedVariables false
namespace Go.Proofs.YtbkchhjdjijhkaaDoor
open Go Go.Sx

theorem trim_front (c : UInt8) (l : List UInt8) : Lib.trimB (c :: l) c = Lib.trimB l c := by
  unfold Lib.trimB Lib.trimLeftB Lib.trimRightB
  rw [List.reverse_cons, List.dropWhile_append]
  split
  · rename_i h
    have h0 : List.dropWhile (fun x => x == c) l.reverse = [] := by simpa using h
    rw [h0]
    simp
  · rw [List.reverse_append]
    simp

theorem trim_back (c : UInt8) (l : List UInt8) : Lib.trimB (l ++ [c]) c = Lib.trimB l c := by
  unfold Lib.trimB Lib.trimLeftB Lib.trimRightB
  rw [List.reverse_append]
  simp

theorem trim_done (c : UInt8) (l : List UInt8) (h1 : ∀ b, l.head? = some b → b ≠ c) (h2 : ∀ b, l.getLast? = some b → b ≠ c) : Lib.trimB l c = l := by
  unfold Lib.trimB Lib.trimLeftB Lib.trimRightB
  have e1 : l.reverse.dropWhile (fun x => x == c) = l.reverse := by
    cases hr : l.reverse with
    | nil => rfl
    | cons b r =>
      have : l.getLast? = some b := by rw [← List.head?_reverse, hr]; rfl
      have := h2 b this
      rw [List.dropWhile_cons, if_neg (by simpa using this)]
  rw [e1, List.reverse_reverse]
  cases l with
  | nil => rfl
  | cons b r =>
    have := h1 b rfl
    rw [List.dropWhile_cons, if_neg (by simpa using this)]

theorem extract_tail (r : ByteArray) : (r.extract 1 r.size).data.toList = r.data.toList.drop 1 := Lib.extract_to_end ..

end Go.Proofs.YtbkchhjdjijhkaaDoor
