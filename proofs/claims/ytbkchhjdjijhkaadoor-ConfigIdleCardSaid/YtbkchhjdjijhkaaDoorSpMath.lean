/- A text's parts. No statement of the seat is proved here. -/
import Derived.Test.YtbkchhjdjijhkaaDoorSlim
import Derived.Lib.Bytealg
import Derived.Lib.IndexBytes
set_option linter.unusedSimpArgs false
set_option linter.unusedVariables false
namespace Go.Proofs.YtbkchhjdjijhkaaDoor
open Go Go.Sx

/-- A text's parts. -/
def partsB (c : UInt8) : List UInt8 → List (List UInt8)
  | [] => [[]]
  | b :: l => if b = c then [] :: partsB c l else match partsB c l with
    | [] => [[b]]
    | p :: ps => (b :: p) :: ps

theorem bytes_ext {a b : ByteArray} (h : a.data.toList = b.data.toList) : a = b := by
  cases a; cases b; simp only [Array.toList_inj] at h; rw [h]
theorem take_bytes (r : ByteArray) (n : Nat) : (⟨(r.data.toList.take n).toArray⟩ : ByteArray).data.toList = (r.extract 0 n).data.toList := by
  simp [ByteArray.extract, ByteArray.copySlice]

theorem partsB_ne (c : UInt8) (l : List UInt8) : partsB c l ≠ [] := by
  cases l with
  | nil => simp [partsB]
  | cons b l =>
    simp only [partsB]
    split
    · simp
    · split <;> simp

theorem partsB_at (c : UInt8) : ∀ l : List UInt8, (Lib.indexByte l c < 0 → partsB c l = [l]) ∧ (0 ≤ Lib.indexByte l c → (Lib.indexByte l c).toNat < l.length ∧ partsB c l = l.take (Lib.indexByte l c).toNat :: partsB c (l.drop ((Lib.indexByte l c).toNat + 1)))
  | [] => by simp [Lib.indexByte, partsB]
  | b :: l => by
    have ih := partsB_at c l
    have hge := Lib.indexByte_ge l c
    simp only [Lib.indexByte, partsB]
    by_cases hb : b = c
    · subst hb; simp
    · have hb' : (b == c) = false := by simpa using hb
      simp only [hb', hb, if_false, Bool.false_eq_true]
      by_cases hi : Lib.indexByte l c = -1
      · have h1 := ih.1 (by omega)
        simp [hi, h1]
      · have hi' : (Lib.indexByte l c == -1) = false := by simpa using hi
        have h0 : 0 ≤ Lib.indexByte l c := by omega
        obtain ⟨h2, h3⟩ := ih.2 h0
        simp only [hi', if_false, Bool.false_eq_true]
        have e : (Lib.indexByte l c + 1).toNat = (Lib.indexByte l c).toNat + 1 := by omega
        refine ⟨fun h => by omega, fun _ => ⟨by rw [e]; simp; omega, ?_⟩⟩
        rw [e, h3]
        simp

theorem parts_sum (c : UInt8) : ∀ l : List UInt8, (partsB c l).length ≤ l.length + 1 ∧ ∀ p ∈ partsB c l, p.length ≤ l.length
  | [] => by simp [partsB]
  | b :: l => by
    have ih := parts_sum c l
    simp only [partsB]
    by_cases hb : b = c
    · rw [if_pos hb]
      refine ⟨by simp; omega, fun p hp => ?_⟩
      rcases List.mem_cons.1 hp with rfl | hp
      · simp
      · have := ih.2 p hp; simp; omega
    · rw [if_neg hb]
      generalize partsB c l = ps at *
      cases ps with
      | nil => simp
      | cons q ps =>
        simp only [List.length_cons] at ih ⊢
        refine ⟨by omega, fun p hp => ?_⟩
        rcases List.mem_cons.1 hp with rfl | hp
        · have := ih.2 q (by simp); simp; omega
        · have := ih.2 p (by simp [hp]); omega

end Go.Proofs.YtbkchhjdjijhkaaDoor
