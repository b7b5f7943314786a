/- A text of digits alone, the program's way. No statement of the seat is proved here. -/
import Derived.Test.YtbkchhjdjijhkaaDoorLbText
import Derived.Test.YtbkchhjdjijhkaaDoorRtSpan
import Derived.Shelf.Strings.SlTrimAscii
import Derived.Shelf.Strconv.ParseIntPublic10
import Derived.WalkKit
import Derived.TacticsInMore
set_option linter.unusedSimpArgs false
set_option linter.unusedVariables false
namespace Go.Proofs.YtbkchhjdjijhkaaDoor
open Go Go.Sx Go.RowKit Go.Shelf

/-- Digits alone: their number; how it fails. -/
def rtWhole (l : List UInt8) : Int × Int := if l ≠ [] ∧ (rtNum 0 l).2 = [] then (if (rtNum 0 l).1 > 1099511627776 then (0, 3) else (((rtNum 0 l).1 : Nat), 0)) else (0, 2)

def digits10 : ByteArray := ⟨#[48, 49, 50, 51, 52, 53, 54, 55, 56, 57]⟩

theorem dig_in (b : UInt8) : digits10.data.toList.contains b = digB b := by
  have h := (by decide +kernel : ∀ n : Fin 256, ([48, 49, 50, 51, 52, 53, 54, 55, 56, 57] : List UInt8).contains (UInt8.ofNat n.1) = digB (UInt8.ofNat n.1))
  have := h ⟨b.toNat, u8_lt b⟩
  simpa [digits10] using this

theorem rtNum_all : ∀ (l : List UInt8) (n : Nat), (rtNum n l).2 = [] ↔ l.all digB = true
  | [], n => by simp [rtNum]
  | b :: l, n => by
    simp only [rtNum, List.all_cons, Bool.and_eq_true]
    split
    · rename_i h; rw [rtNum_all l]; simp [h]
    · rename_i h; simp [h]

theorem trimS_nil (l cs : List UInt8) : Lib.trimS l cs = [] ↔ ∀ b ∈ l, cs.contains b = true := by
  unfold Lib.trimS Lib.trimLeftS Lib.trimRightS
  constructor
  · intro h b hb
    have h1 : ∀ b ∈ (l.reverse.dropWhile fun x => cs.contains x).reverse, cs.contains b = true := by
      intro b hb
      by_cases hc : cs.contains b = true
      · exact hc
      · exfalso
        have : ∀ (l : List UInt8), b ∈ l → l.dropWhile (fun x => cs.contains x) ≠ [] := by
          intro l
          induction l with
          | nil => simp
          | cons a l ih =>
            intro hm
            simp only [List.dropWhile_cons]
            split
            · rename_i ha
              rcases List.mem_cons.1 hm with rfl | hm
              · exact absurd ha hc
              · exact ih hm
            · simp
        exact this _ hb h
    have h2 : l.reverse.dropWhile (fun x => cs.contains x) = [] := by
      cases hd : l.reverse.dropWhile (fun x => cs.contains x) with
      | nil => rfl
      | cons a r =>
        exfalso
        have h3 : cs.contains a = true := h1 a (by rw [hd]; simp)
        have h4 := List.head?_dropWhile_not (fun x => cs.contains x) l.reverse
        rw [hd] at h4
        simp at h4
        simp at h3
        exact h4 h3
    have h5 : ∀ (l : List UInt8), l.dropWhile (fun x => cs.contains x) = [] → ∀ b ∈ l, cs.contains b = true := by
      intro l
      induction l with
      | nil => simp
      | cons a l ih =>
        intro hd b hb
        simp only [List.dropWhile_cons] at hd
        split at hd
        · rename_i ha
          rcases List.mem_cons.1 hb with rfl | hb
          · exact ha
          · exact ih hd b hb
        · cases hd
    exact h5 _ h2 b (by simpa using hb)
  · intro h
    have h1 : l.reverse.dropWhile (fun x => cs.contains x) = [] := by
      have h6 : ∀ (l : List UInt8), (∀ b ∈ l, cs.contains b = true) → l.dropWhile (fun x => cs.contains x) = [] := by
        intro l
        induction l with
        | nil => simp
        | cons a l ih =>
          intro ha
          have h7 := ha a (by simp)
          simp only [List.dropWhile_cons]
          rw [if_pos h7]
          exact ih fun b hb => ha b (by simp [hb])
      exact h6 _ fun b hb => h b (by simpa using hb)
    rw [h1]; simp

/-- What digits spell. -/
def rtVal (n : Nat) (l : List UInt8) : Nat := l.foldl (fun m b => m * 10 + (b.toNat - 48)) n

theorem rtVal_nil (n : Nat) : rtVal n [] = n := List.foldl_nil
theorem rtVal_cons (n : Nat) (b : UInt8) (l : List UInt8) : rtVal n (b :: l) = rtVal (n * 10 + (b.toNat - 48)) l := List.foldl_cons ..

theorem rtVal_ge : ∀ (l : List UInt8) (n : Nat), n ≤ rtVal n l
  | [], n => by rw [rtVal_nil]; exact Nat.le_refl n
  | b :: l, n => by rw [rtVal_cons]; exact Nat.le_trans (by omega) (rtVal_ge l (n * 10 + (b.toNat - 48)))

theorem minmin (n d K : Nat) : min (min n K * 10 + d) K = min (n * 10 + d) K := by omega

theorem rtNum_val (l : List UInt8) (ha : l.all digB = true) : ∀ (n m : Nat), m = min n 1099511627777 → (rtNum m l).1 = min (rtVal n l) 1099511627777 := by
  induction l with
  | nil => intro n m h; rw [rtVal_nil]; exact h
  | cons b l ih =>
    intro n m h
    have h1 : digB b = true := by simp only [List.all_cons, Bool.and_eq_true] at ha; exact ha.1
    have h2 : l.all digB = true := by simp only [List.all_cons, Bool.and_eq_true] at ha; exact ha.2
    have e : rtNum m (b :: l) = rtNum (min (m * 10 + (b.toNat - 48)) 1099511627777) l := by rw [rtNum, if_pos h1]
    rw [e, rtVal_cons]
    exact ih h2 _ _ (by rw [h]; exact minmin n _ 1099511627777)

theorem parseU_of : ∀ (l : List UInt8) (n : Nat), l.all digB = true → (rtVal n l ≤ 1099511627776 → Lib.parseUintM (2 ^ 64 - 1) n l = .ok (rtVal n l)) ∧ (Lib.parseUintM (2 ^ 64 - 1) n l = .range ∨ Lib.parseUintM (2 ^ 64 - 1) n l = .ok (rtVal n l))
  | [], n, _ => by simp [Lib.parseUintM, rtVal_nil]
  | b :: l, n, h => by
    simp only [List.all_cons, Bool.and_eq_true] at h
    obtain ⟨hb, hl⟩ := h
    simp only [digB, Bool.and_eq_true, decide_eq_true_eq] at hb
    obtain ⟨i1, i2⟩ := parseU_of l (n * 10 + (b.toNat - 48)) hl
    have hge := rtVal_ge l (n * 10 + (b.toNat - 48))
    simp only [Lib.parseUintM, if_pos hb, rtVal_cons]
    refine ⟨fun hv => ?_, ?_⟩
    · rw [if_neg (by omega), if_neg (by omega)]; exact i1 hv
    · split
      · exact Or.inl rfl
      · split
        · exact Or.inl rfl
        · exact i2

theorem parseI_of (l : List UInt8) (hne : l ≠ []) (h : l.all digB = true) : (rtVal 0 l ≤ 1099511627776 ∧ Lib.parseIntB 64 l = .ok (rtVal 0 l)) ∨ (rtVal 0 l > 1099511627776 ∧ (Lib.parseIntB 64 l = .ok (rtVal 0 l) ∨ Lib.parseIntB 64 l = .range)) := by
  cases l with
  | nil => exact absurd rfl hne
  | cons c r =>
    have hc : digB c = true := by simp at h; exact h.1
    simp only [digB, Bool.and_eq_true, decide_eq_true_eq] at hc
    obtain ⟨i1, i2⟩ := parseU_of (c :: r) 0 h
    have e1 : (if c.toNat = 43 ∨ c.toNat = 45 then r else c :: r) = c :: r := if_neg (by omega)
    have e2 : Lib.parseUintB 64 (c :: r) = Lib.parseUintM (2 ^ 64 - 1) 0 (c :: r) := by simp [Lib.parseUintB]
    simp only [Lib.parseIntB, e1, e2]
    have e3 : ¬ c.toNat = 45 := by omega
    by_cases hv : rtVal 0 (c :: r) ≤ 1099511627776
    · left
      refine ⟨hv, ?_⟩
      rw [i1 hv]
      simp only [e3, not_false_eq_true, true_and, false_and, if_false]
      rw [if_neg (by omega)]
    · right
      refine ⟨by omega, ?_⟩
      rcases i2 with i2 | i2
      · rw [i2]; exact Or.inr rfl
      · rw [i2]
        simp only [e3, not_false_eq_true, true_and, false_and, if_false]
        split
        · exact Or.inr rfl
        · exact Or.inl rfl

theorem grown_of_below {w w' : World} (h : Below w.heap.size w w') (hc : E0.cnt → False) : Grown E0 w w' := ⟨h.os, h.tape, h.output, fun hh => (hc hh).elim, h.size, h.block⟩

end Go.Proofs.YtbkchhjdjijhkaaDoor
