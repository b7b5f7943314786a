/- Idle lines and blanks change nothing: the plain law. No statement of the seat is proved here. -/
import Derived.Test.YtbkchhjdjijhkaaDoorCfRef
import Derived.Test.YtbkchhjdjijhkaaDoorSxH
set_option linter.unusedSimpArgs false
set_option linter.unusedVariables false
namespace Go.Proofs.YtbkchhjdjijhkaaDoor
open Go Go.Sx

theorem parts_cut (c : UInt8) (r : List UInt8) : ∀ p : List UInt8, (∀ b ∈ p, b ≠ c) → partsB c (p ++ c :: r) = p :: partsB c r
  | [], _ => by simp [partsB]
  | b :: p, h => by
    have hb : ¬ b = c := h b (by simp)
    simp only [List.cons_append, partsB, if_neg hb, parts_cut c r p (fun x hx => h x (by simp [hx]))]

theorem parts_no (c : UInt8) : ∀ l : List UInt8, ∀ p ∈ partsB c l, ∀ b ∈ p, b ≠ c
  | [] => by simp [partsB]
  | b :: l => by
    have ih := parts_no c l
    simp only [partsB]
    by_cases hb : b = c
    · rw [if_pos hb]
      intro p hp x hx
      rcases List.mem_cons.1 hp with rfl | hp
      · cases hx
      · exact ih p hp x hx
    · rw [if_neg hb]
      generalize partsB c l = ps at *
      cases ps with
      | nil => intro p hp x hx; simp at hp; subst hp; simp at hx; subst hx; exact hb
      | cons q ps =>
        intro p hp x hx
        rcases List.mem_cons.1 hp with rfl | hp
        · rcases List.mem_cons.1 hx with rfl | hx
          · exact hb
          · exact ih q (by simp) x hx
        · exact ih p (by simp [hp]) x hx

theorem trim_mem (l : List UInt8) (b : UInt8) (h : b ∈ cfTrim l) : b ∈ l := by
  unfold cfTrim Lib.trimS Lib.trimLeftS Lib.trimRightS at h
  have h1 := (List.dropWhile_suffix _).subset h
  have h2 := (List.dropWhile_suffix _).subset (List.mem_reverse.1 h1)
  exact List.mem_reverse.1 h2

theorem line_mem (l : List UInt8) (b : UInt8) (h : b ∈ cfLine l) : b ∈ l := by
  have h1 := trim_mem _ b h
  unfold stripB at h1
  split at h1
  · exact (List.dropLast_sublist l).subset h1
  · exact h1

theorem trim_trim : ∀ (n : Nat) (l : List UInt8), l.length ≤ n → cfTrim (cfTrim l) = cfTrim l
  | 0, l, h => by
    obtain rfl : l = [] := List.length_eq_zero_iff.1 (by omega)
    rfl
  | n + 1, l, h => by
    by_cases h1 : ∀ b, l.head? = some b → blankB b = false
    · by_cases h2 : ∀ b, l.getLast? = some b → blankB b = false
      · rw [cfTrim_done l h1 h2, cfTrim_done l h1 h2]
      · by_cases h0 : l = []
        · subst h0; rfl
        obtain ⟨i, b, rfl⟩ := snoc_of h0
        have hb : blankB b = true := by
          cases hb : blankB b
          · exact absurd (fun x hx => by rw [List.getLast?_concat] at hx; injection hx with hx; subst hx; exact hb) h2
          · rfl
        rw [cfTrim_back i hb]
        exact trim_trim n i (by simp at h; omega)
    · cases l with
      | nil => rfl
      | cons b l =>
        have hb : blankB b = true := by
          cases hb : blankB b
          · exact absurd (fun x hx => by simp only [List.head?_cons, Option.some.injEq] at hx; subst hx; exact hb) h1
          · rfl
        rw [cfTrim_front l hb]
        exact trim_trim n l (by simp at h; omega)

theorem lines_no (t : List UInt8) : ∀ l ∈ cfLines t, (∀ b ∈ l, b ≠ 10) ∧ cfTrim l = l ∧ cfKeep l = true := by
  intro l hl
  unfold cfLines at hl
  obtain ⟨h1, h2⟩ := List.mem_filter.1 hl
  obtain ⟨p, hp, rfl⟩ := List.mem_map.1 h1
  exact ⟨fun b hb => parts_no 10 t p hp b (line_mem p b hb), trim_trim _ _ (Nat.le_refl _), h2⟩

/-- The idle line ahead of a line. -/
def idlePad (k : Nat) : List UInt8 := if k % 4 = 0 then [35, 32, 110, 111, 10] else if k % 4 = 1 then [32, 9, 10] else if k % 4 = 2 then [59, 13, 10] else []

def moreOf : Nat → List (List UInt8) → List UInt8
  | _, [] => []
  | k, l :: ls => idlePad k ++ ([32, 32] ++ (l ++ ([9, 10] ++ moreOf (k + 1) ls)))

theorem pad_lines (k : Nat) (r : List UInt8) : cfLines (idlePad k ++ r) = cfLines r := by
  have one : ∀ p : List UInt8, (∀ b ∈ p, b ≠ 10) → cfKeep (cfLine p) = false → cfLines (p ++ 10 :: r) = cfLines r := by
    intro p hp hk
    unfold cfLines
    rw [parts_cut 10 r p hp, List.map_cons, List.filter_cons, if_neg (by rw [hk]; decide)]
  unfold idlePad
  split
  · exact one [35, 32, 110, 111] (by decide) (by decide +kernel)
  · split
    · exact one [32, 9] (by decide) (by decide +kernel)
    · split
      · exact one [59, 13] (by decide) (by decide +kernel)
      · rfl

theorem blank_line (l : List UInt8) (h : cfTrim l = l) : cfLine (32 :: 32 :: (l ++ [9])) = l := by
  have hs : stripB 13 (32 :: 32 :: (l ++ [9])) = 32 :: 32 :: (l ++ [9]) := by
    have e : 32 :: 32 :: (l ++ [9]) = (32 :: 32 :: l) ++ [(9 : UInt8)] := rfl
    rw [e, strip_eq, last_snoc]; rfl
  unfold cfLine
  rw [hs, cfTrim_front _ (by decide), cfTrim_front _ (by decide), cfTrim_back _ (by decide), h]

theorem more_lines : ∀ (ls : List (List UInt8)) (k : Nat), (∀ l ∈ ls, (∀ b ∈ l, b ≠ 10) ∧ cfTrim l = l ∧ cfKeep l = true) → cfLines (moreOf k ls) = ls
  | [], k, _ => by
    show cfLines [] = []
    decide +kernel
  | l :: ls, k, h => by
    have ih := more_lines ls (k + 1) (fun x hx => h x (by simp [hx]))
    obtain ⟨h1, h2, h3⟩ := h l (by simp)
    have e : ([32, 32] ++ (l ++ ([9, 10] ++ moreOf (k + 1) ls))) = (32 :: 32 :: (l ++ [9])) ++ 10 :: moreOf (k + 1) ls := by simp
    rw [moreOf, pad_lines, e]
    unfold cfLines
    rw [parts_cut 10 _ _ (by
      intro b hb
      simp only [List.mem_cons, List.mem_append, List.not_mem_nil, or_false] at hb
      rcases hb with rfl | rfl | hb | rfl
      · decide
      · decide
      · exact h1 b hb
      · decide), List.map_cons, List.filter_cons, blank_line l h2, if_pos h3]
    unfold cfLines at ih
    rw [ih]

theorem more_len (M : Nat) : ∀ (ls : List (List UInt8)) (k : Nat), (∀ l ∈ ls, l.length ≤ M) → (moreOf k ls).length ≤ ls.length * (M + 9)
  | [], k, _ => by simp [moreOf]
  | l :: ls, k, h => by
    have ih := more_len M ls (k + 1) (fun x hx => h x (by simp [hx]))
    have h1 := h l (by simp)
    have hp : (idlePad k).length ≤ 5 := by
      unfold idlePad; repeat' split
      all_goals decide
    rw [moreOf]
    simp only [List.length_append, List.length_cons, List.length_nil, Nat.add_mul, Nat.one_mul]
    omega

theorem more_parse (t : List UInt8) (k : Nat) (ht : t.length ≤ 2000) : cfParse (moreOf k (cfLines t)) = if 4096 < (moreOf k (cfLines t)).length then ([], 12) else cfParse t := by
  have h := more_lines (cfLines t) k (lines_no t)
  unfold cfParse
  rw [h]
  split
  · rfl
  · rw [if_neg (by omega)]

end Go.Proofs.YtbkchhjdjijhkaaDoor
