/- Stable sorting: putting in one by one, merging, piece by piece. No statement of the seat is proved here. -/
import Derived.Test.YtgablplpdocniaaSlim
set_option linter.unusedSimpArgs false
set_option linter.unusedVariables false
namespace Go.Proofs.Ytgablplpdocniaa
open Go Go.Sx

section StableSort
variable {α : Type}

/-- An item put into a list that is read from its end. -/
def insRev (lt : α → α → Bool) (x : α) : List α → List α
  | [] => [x]
  | y :: r => if lt x y then y :: insRev lt x r else x :: y :: r

/-- An item put into a list, behind all that aren't above it. -/
def insR (lt : α → α → Bool) (x : α) (l : List α) : List α := (insRev lt x l.reverse).reverse

/-- Sorted by putting in one by one. -/
def isrt (lt : α → α → Bool) (l : List α) : List α := l.foldl (fun s x => insR lt x s) []

theorem insR_nil (lt : α → α → Bool) (x : α) : insR lt x [] = [x] := rfl
theorem insR_snoc (lt : α → α → Bool) (x y : α) (s : List α) : insR lt x (s ++ [y]) = if lt x y then insR lt x s ++ [y] else s ++ [y, x] := by
  unfold insR
  rw [List.reverse_append, List.reverse_singleton, List.singleton_append, insRev]
  split
  · rw [List.reverse_cons]
  · simp
theorem isrt_nil (lt : α → α → Bool) : isrt lt [] = [] := rfl
theorem isrt_snoc (lt : α → α → Bool) (l : List α) (x : α) : isrt lt (l ++ [x]) = insR lt x (isrt lt l) := by
  unfold isrt; rw [List.foldl_append]; rfl
theorem insRev_len (lt : α → α → Bool) (x : α) : ∀ l, (insRev lt x l).length = l.length + 1
  | [] => rfl
  | y :: r => by
    unfold insRev
    split
    · simp [insRev_len lt x r]
    · rfl
theorem insR_len (lt : α → α → Bool) (x : α) (l : List α) : (insR lt x l).length = l.length + 1 := by
  unfold insR; rw [List.length_reverse, insRev_len, List.length_reverse]

theorem snoc_ind {P : List α → Prop} (h0 : P []) (h1 : ∀ l x, P l → P (l ++ [x])) (l : List α) : P l := by
  have : ∀ r : List α, P r.reverse := by
    intro r
    induction r with
    | nil => exact h0
    | cons x r ih => rw [List.reverse_cons]; exact h1 _ _ ih
  have h := this l.reverse
  rwa [List.reverse_reverse] at h

theorem isrt_len (lt : α → α → Bool) (l : List α) : (isrt lt l).length = l.length := by
  induction l using snoc_ind with
  | h0 => rfl
  | h1 l x ih => rw [isrt_snoc, insR_len, ih]; simp

theorem insRev_mem (lt : α → α → Bool) (x y : α) : ∀ l, y ∈ insRev lt x l ↔ y = x ∨ y ∈ l
  | [] => by simp [insRev]
  | z :: r => by
    unfold insRev
    split
    · simp only [List.mem_cons, insRev_mem lt x y r]
      constructor
      · rintro (h | h | h)
        · exact .inr (.inl h)
        · exact .inl h
        · exact .inr (.inr h)
      · rintro (h | h | h)
        · exact .inr (.inl h)
        · exact .inl h
        · exact .inr (.inr h)
    · simp
theorem insR_mem (lt : α → α → Bool) (x y : α) (l : List α) : y ∈ insR lt x l ↔ y = x ∨ y ∈ l := by
  unfold insR; rw [List.mem_reverse, insRev_mem, List.mem_reverse]
theorem isrt_mem (lt : α → α → Bool) (y : α) (l : List α) : y ∈ isrt lt l ↔ y ∈ l := by
  induction l using snoc_ind with
  | h0 => simp [isrt]
  | h1 l x ih => rw [isrt_snoc, insR_mem, ih]; simp [or_comm]

/-- Below, so that it orders. -/
structure Below3 (lt : α → α → Bool) : Prop where
  asym : ∀ a b, lt a b = true → lt b a = false
  tr : ∀ a b c, lt b a = false → lt c b = false → lt c a = false

def Srt (lt : α → α → Bool) (l : List α) : Prop := l.Pairwise fun a b => lt b a = false

theorem Below3.lt_of {lt : α → α → Bool} (h : Below3 lt) {a b c : α} (h1 : lt b a = false) (h2 : lt b c = true) : lt a c = true := by
  cases h3 : lt a c
  · have := h.tr c a b h3 h1
    rw [this] at h2; cases h2
  · rfl
theorem Below3.lt_of2 {lt : α → α → Bool} (h : Below3 lt) {a b c : α} (h1 : lt a b = true) (h2 : lt c b = false) : lt a c = true := by
  cases h3 : lt a c
  · have := h.tr b c a h2 h3
    rw [this] at h1; cases h1
  · rfl

/-- An item's place in what is sorted. -/
theorem srt_split {lt : α → α → Bool} (h : Below3 lt) (x : α) : ∀ {l : List α}, Srt lt l → ∃ a b, l = a ++ b ∧ (∀ y ∈ a, lt x y = false) ∧ ∀ y ∈ b, lt x y = true
  | [], _ => ⟨[], [], rfl, by simp, by simp⟩
  | z :: l, hs => by
    have hs' := List.pairwise_cons.1 hs
    cases hz : lt x z
    · obtain ⟨a, b, rfl, h1, h2⟩ := srt_split h x hs'.2
      refine ⟨z :: a, b, rfl, ?_, h2⟩
      intro y hy
      rcases List.mem_cons.1 hy with rfl | hy
      · exact hz
      · exact h1 y hy
    · refine ⟨[], z :: l, rfl, by simp, ?_⟩
      intro y hy
      rcases List.mem_cons.1 hy with rfl | hy
      · exact hz
      · exact h.lt_of2 hz (hs'.1 y hy)

theorem insRev_split {lt : α → α → Bool} {x : α} {a : List α} (ha : ∀ y ∈ a, lt x y = false) : ∀ {b : List α}, (∀ y ∈ b, lt x y = true) → insRev lt x (b ++ a) = b ++ x :: a
  | [], _ => by
    cases a with
    | nil => rfl
    | cons y r => simp [insRev, ha y (by simp)]
  | y :: b, hb => by
    simp only [List.cons_append, insRev, hb y (by simp), if_true]
    rw [insRev_split ha fun z hz => hb z (by simp [hz])]
theorem insR_split {lt : α → α → Bool} {x : α} {a b : List α} (ha : ∀ y ∈ a, lt x y = false) (hb : ∀ y ∈ b, lt x y = true) : insR lt x (a ++ b) = a ++ x :: b := by
  unfold insR
  rw [List.reverse_append, insRev_split (by simpa using ha) (by simpa using hb)]
  simp

theorem insR_srt {lt : α → α → Bool} (h : Below3 lt) (x : α) {l : List α} (hs : Srt lt l) : Srt lt (insR lt x l) := by
  obtain ⟨a, b, rfl, h1, h2⟩ := srt_split h x hs
  rw [insR_split h1 h2]
  unfold Srt at hs ⊢
  rw [List.pairwise_append] at hs ⊢
  obtain ⟨p1, p2, p3⟩ := hs
  refine ⟨p1, List.pairwise_cons.2 ⟨fun y hy => h.asym _ _ (h2 y hy), p2⟩, fun y hy z hz => ?_⟩
  rcases List.mem_cons.1 hz with rfl | hz
  · exact h1 y hy
  · exact p3 y hy z hz

theorem isrt_srt {lt : α → α → Bool} (h : Below3 lt) (l : List α) : Srt lt (isrt lt l) := by
  induction l using snoc_ind with
  | h0 => exact List.Pairwise.nil
  | h1 l x ih => rw [isrt_snoc]; exact insR_srt h x ih

/-- Two sorted lists made one; of those that are as great the first list's stand ahead. -/
def mrg (lt : α → α → Bool) : List α → List α → List α
  | [], b => b
  | x :: a, [] => x :: a
  | x :: a, y :: b => if lt y x then y :: mrg lt (x :: a) b else x :: mrg lt a (y :: b)
termination_by a b => a.length + b.length

theorem mrg_nil_left (lt : α → α → Bool) (b : List α) : mrg lt [] b = b := by rw [mrg]
theorem mrg_nil_right (lt : α → α → Bool) (a : List α) : mrg lt a [] = a := by cases a <;> simp [mrg]
theorem mrg_cons (lt : α → α → Bool) (x y : α) (a b : List α) : mrg lt (x :: a) (y :: b) = if lt y x then y :: mrg lt (x :: a) b else x :: mrg lt a (y :: b) := by rw [mrg]

theorem mrg_two (lt : α → α → Bool) {a2 b2 : List α} : ∀ {a1 b1 : List α}, (∀ x ∈ a1, ∀ y ∈ b2, lt y x = false) → (∀ x ∈ a2, ∀ y ∈ b1, lt y x = true) → mrg lt (a1 ++ a2) (b1 ++ b2) = mrg lt a1 b1 ++ mrg lt a2 b2
  | [], [], _, _ => by simp [mrg_nil_left]
  | [], y :: b1, h1, h2 => by
    have ih := mrg_two lt (a1 := []) (b1 := b1) (a2 := a2) (b2 := b2) (by simp) (fun x hx z hz => h2 x hx z (by simp [hz]))
    simp only [List.nil_append, mrg_nil_left] at ih ⊢
    cases a2 with
    | nil => simp [mrg_nil_left]
    | cons x a2 =>
      simp only [List.cons_append, mrg_cons, h2 x (by simp) y (by simp), if_true]
      rw [ih]
  | x :: a1, [], h1, h2 => by
    have ih := mrg_two lt (a1 := a1) (b1 := []) (a2 := a2) (b2 := b2) (fun z hz => h1 z (by simp [hz])) (by simp)
    simp only [List.nil_append, mrg_nil_right] at ih ⊢
    cases b2 with
    | nil => simp [mrg_nil_right]
    | cons y b2 =>
      simp only [List.cons_append, mrg_cons, h1 x (by simp) y (by simp), Bool.false_eq_true, if_false]
      rw [ih]
  | x :: a1, y :: b1, h1, h2 => by
    simp only [List.cons_append, mrg_cons]
    split
    · rw [List.cons_append, ← mrg_two lt (a1 := x :: a1) (b1 := b1) h1 (fun z hz w hw => h2 z hz w (by simp [hw]))]; rfl
    · rw [List.cons_append, ← mrg_two lt (a1 := a1) (b1 := y :: b1) (fun z hz => h1 z (by simp [hz])) h2]; rfl
termination_by a1 b1 => a1.length + b1.length

theorem mrg_len (lt : α → α → Bool) : ∀ (a b : List α), (mrg lt a b).length = a.length + b.length
  | [], b => by simp [mrg_nil_left]
  | x :: a, [] => by simp [mrg_nil_right]
  | x :: a, y :: b => by
    rw [mrg_cons]
    split
    · rw [List.length_cons, mrg_len lt (x :: a) b]; simp; omega
    · rw [List.length_cons, mrg_len lt a (y :: b)]; simp; omega
termination_by a b => a.length + b.length
theorem mrg_mem (lt : α → α → Bool) (z : α) : ∀ (a b : List α), z ∈ mrg lt a b ↔ z ∈ a ∨ z ∈ b
  | [], b => by simp [mrg_nil_left]
  | x :: a, [] => by simp [mrg_nil_right]
  | x :: a, y :: b => by
    rw [mrg_cons]
    split
    · rw [List.mem_cons, mrg_mem lt z (x :: a) b]; simp; grind
    · rw [List.mem_cons, mrg_mem lt z a (y :: b)]; simp; grind
termination_by a b => a.length + b.length

theorem mrg_ins {lt : α → α → Bool} (h : Below3 lt) (x : α) {s t : List α} (hs : Srt lt s) (ht : Srt lt t) : mrg lt s (insR lt x t) = insR lt x (mrg lt s t) := by
  obtain ⟨s1, s2, rfl, h1, h2⟩ := srt_split h x hs
  obtain ⟨t1, t2, rfl, g1, g2⟩ := srt_split h x ht
  have c1 : ∀ a ∈ s1, ∀ b ∈ t2, lt b a = false := fun a ha b hb => h.asym _ _ (h.lt_of (h1 a ha) (g2 b hb))
  have c2 : ∀ a ∈ s2, ∀ b ∈ t1, lt b a = true := fun a ha b hb => h.lt_of (g1 b hb) (h2 a ha)
  rw [insR_split g1 g2, mrg_two lt c1 c2, insR_split]
  · rw [show t1 ++ x :: t2 = (t1 ++ [x]) ++ t2 by simp, mrg_two lt (a1 := s1) (b1 := t1 ++ [x]) c1]
    · have : mrg lt s1 (t1 ++ [x]) = mrg lt s1 t1 ++ [x] := by
        have := mrg_two lt (a1 := s1) (a2 := []) (b1 := t1) (b2 := [x]) (fun a ha b hb => by simp at hb; subst hb; exact h1 a ha) (by simp)
        rw [List.append_nil, mrg_nil_left] at this
        exact this
      rw [this]; simp
    · intro a ha b hb
      rcases List.mem_append.1 hb with hb | hb
      · exact c2 a ha b hb
      · simp at hb; subst hb; exact h2 a ha
  · intro y hy
    rcases (mrg_mem lt y s1 t1).1 hy with hy | hy
    · exact h1 y hy
    · exact g1 y hy
  · intro y hy
    rcases (mrg_mem lt y s2 t2).1 hy with hy | hy
    · exact h2 y hy
    · exact g2 y hy

theorem mrg_isrt {lt : α → α → Bool} (h : Below3 lt) (a b : List α) : mrg lt (isrt lt a) (isrt lt b) = isrt lt (a ++ b) := by
  induction b using snoc_ind with
  | h0 => rw [isrt_nil, mrg_nil_right, List.append_nil]
  | h1 b x ih => rw [isrt_snoc, mrg_ins h x (isrt_srt h a) (isrt_srt h b), ih, ← List.append_assoc, isrt_snoc]

/-- Sorted piece by piece. -/
def chk (lt : α → α → Bool) (s : Nat) (l : List α) : List α := if h : s = 0 ∨ l.length ≤ s then isrt lt l else isrt lt (l.take s) ++ chk lt s (l.drop s)
termination_by l.length
decreasing_by simp at h ⊢; omega

theorem chk_le (lt : α → α → Bool) {s : Nat} {l : List α} (h : l.length ≤ s) : chk lt s l = isrt lt l := by rw [chk, dif_pos (.inr h)]
theorem chk_gt (lt : α → α → Bool) {s : Nat} {l : List α} (h0 : 0 < s) (h : s ≤ l.length) : chk lt s l = isrt lt (l.take s) ++ chk lt s (l.drop s) := by
  by_cases hl : l.length = s
  · rw [chk_le lt (by omega), List.take_of_length_le (by omega), List.drop_of_length_le (by omega), chk_le lt (by simp), isrt_nil, List.append_nil]
  · rw [chk, dif_neg (by omega)]
theorem chk_len (lt : α → α → Bool) (s : Nat) (l : List α) : (chk lt s l).length = l.length := by
  rw [chk]
  split
  · exact isrt_len lt l
  · rename_i h
    rw [List.length_append, isrt_len, chk_len lt s (l.drop s)]; simp; omega
termination_by l.length
decreasing_by simp; omega

/-- Two lists cut where the second one's beginning is below what is cut off the first. -/
theorem mrg_cut {lt : α → α → Bool} (h : Below3 lt) {a1 a2 b1 b2 : List α} (ha : Srt lt (a1 ++ a2)) (hb : Srt lt (b1 ++ b2)) (h1 : ∀ x y, a1.getLast? = some x → b2.head? = some y → lt y x = false) (h2 : ∀ x y, a2.head? = some x → b1.getLast? = some y → lt y x = true) :
    mrg lt (a1 ++ a2) (b1 ++ b2) = mrg lt a1 b1 ++ mrg lt a2 b2 := by
  unfold Srt at ha hb
  have last : ∀ {l1 l2 : List α}, (l1 ++ l2).Pairwise (fun a b => lt b a = false) → ∀ x ∈ l1, ∃ z, l1.getLast? = some z ∧ lt z x = false := by
    intro l1 l2 hp x hx
    have hp1 := (List.pairwise_append.1 hp).1
    have hne : l1 ≠ [] := fun e => by rw [e] at hx; cases hx
    refine ⟨l1.getLast hne, List.getLast?_eq_some_getLast hne, ?_⟩
    have hd := List.dropLast_concat_getLast hne
    rw [← hd] at hx hp1
    rcases List.mem_append.1 hx with hx | hx
    · exact (List.pairwise_append.1 hp1).2.2 x hx _ (by simp)
    · simp at hx; rw [hx]
      cases hb : lt (l1.getLast hne) (l1.getLast hne)
      · rfl
      · rw [h.asym _ _ hb] at hb; cases hb
  have head : ∀ {l1 l2 : List α}, (l1 ++ l2).Pairwise (fun a b => lt b a = false) → ∀ x ∈ l2, ∃ z, l2.head? = some z ∧ lt x z = false := by
    intro l1 l2 hp x hx
    have hp1 := (List.pairwise_append.1 hp).2.1
    cases l2 with
    | nil => cases hx
    | cons z l2 =>
      refine ⟨z, rfl, ?_⟩
      rcases List.mem_cons.1 hx with rfl | hx
      · cases hb : lt x x
        · rfl
        · rw [h.asym _ _ hb] at hb; cases hb
      · exact (List.pairwise_cons.1 hp1).1 x hx
  refine mrg_two lt (fun x hx y hy => ?_) (fun x hx y hy => ?_)
  · obtain ⟨z, hz, hzx⟩ := last ha x hx
    obtain ⟨w, hw, hyw⟩ := head hb y hy
    exact h.tr _ _ _ hzx (h.tr _ _ _ (h1 z w hz hw) hyw)
  · obtain ⟨z, hz, hxz⟩ := head ha x hx
    obtain ⟨w, hw, hwy⟩ := last hb y hy
    exact h.lt_of2 (h.lt_of hwy (h2 z w hz hw)) hxz
end StableSort

/-- Two neighbours change places. -/
theorem sw_step {α : Type} (p : List α) (y x : α) (r : List α) {n m : Nat} (hn : n = p.length) (hm : m = n + 1) : (p ++ y :: x :: r)[n]? = some y ∧ (p ++ y :: x :: r)[m]? = some x ∧ ((p ++ y :: x :: r).set m y)[n]? = some y ∧ ((p ++ y :: x :: r).set m y).set n x = p ++ x :: y :: r ∧
    ((p ++ y :: x :: r).set n x)[m]? = some x ∧ ((p ++ y :: x :: r).set n x).set m y = p ++ x :: y :: r := by
  subst hm
  subst hn
  have e1 : p ++ y :: x :: r = (p ++ [y]) ++ x :: r := by simp
  have s1 : (p ++ y :: x :: r).set (p.length + 1) y = p ++ y :: y :: r := by
    rw [e1, show p.length + 1 = (p ++ [y]).length by simp, List.set_append_right _ _ (Nat.le_refl _), Nat.sub_self, List.set_cons_zero]; simp
  have s2 : (p ++ y :: x :: r).set p.length x = p ++ x :: x :: r := by
    rw [List.set_append_right _ _ (Nat.le_refl _), Nat.sub_self, List.set_cons_zero]
  refine ⟨?_, ?_, ?_, ?_, ?_, ?_⟩
  · rw [List.getElem?_append_right (Nat.le_refl _), Nat.sub_self]; rfl
  · rw [e1, show p.length + 1 = (p ++ [y]).length by simp, List.getElem?_append_right (Nat.le_refl _), Nat.sub_self]; rfl
  · rw [s1, List.getElem?_append_right (Nat.le_refl _), Nat.sub_self]; rfl
  · rw [s1, List.set_append_right _ _ (Nat.le_refl _), Nat.sub_self, List.set_cons_zero]
  · rw [s2, show p ++ x :: x :: r = (p ++ [x]) ++ x :: r by simp, show p.length + 1 = (p ++ [x]).length by simp, List.getElem?_append_right (Nat.le_refl _), Nat.sub_self]; rfl
  · rw [s2, show p ++ x :: x :: r = (p ++ [x]) ++ x :: r by simp, show p.length + 1 = (p ++ [x]).length by simp, List.set_append_right _ _ (Nat.le_refl _), Nat.sub_self, List.set_cons_zero]; simp

theorem nil_or_snoc {α : Type} (l : List α) : l = [] ∨ ∃ i b, l = i ++ [b] := by
  induction l using snoc_ind with
  | h0 => exact .inl rfl
  | h1 l x _ => exact .inr ⟨l, x, rfl⟩

theorem split_at {α : Type} {l : List α} {n : Nat} (h : n ≤ l.length) : ∃ a b, l = a ++ b ∧ a.length = n := ⟨l.take n, l.drop n, (List.take_append_drop n l).symm, by rw [List.length_take]; omega⟩

theorem split_at1 {α : Type} {l : List α} {n : Nat} (h : n < l.length) : ∃ a x b, l = a ++ x :: b ∧ a.length = n := by
  obtain ⟨a, b, rfl, h1⟩ := split_at (Nat.le_of_lt h)
  cases b with
  | nil => simp at h; omega
  | cons x b => exact ⟨a, x, b, rfl, h1⟩

theorem get_mid {α : Type} (a : List α) (x : α) (b : List α) {n : Nat} (h : n = a.length) : (a ++ x :: b)[n]? = some x := by
  subst h; rw [List.getElem?_append_right (Nat.le_refl _), Nat.sub_self]; rfl

theorem mrg_one_left {α : Type} {lt : α → α → Bool} (h : Below3 lt) (x : α) {b1 b2 : List α} (hb : Srt lt (b1 ++ b2)) (h1 : ∀ y, b1.getLast? = some y → lt y x = true) (h2 : ∀ y, b2.head? = some y → lt y x = false) : mrg lt [x] (b1 ++ b2) = b1 ++ x :: b2 := by
  have := mrg_cut (a1 := []) (a2 := [x]) h (List.pairwise_singleton _ _) hb (by simp) (fun a y ha hy => by simp at ha; subst ha; exact h1 y hy)
  rw [List.nil_append, mrg_nil_left] at this
  rw [this]
  congr 1
  cases b2 with
  | nil => rw [mrg_nil_right]
  | cons y b2 => rw [mrg_cons, h2 y rfl, if_neg (by decide), mrg_nil_left]

theorem mrg_one_right {α : Type} {lt : α → α → Bool} (h : Below3 lt) (y : α) {a1 a2 : List α} (ha : Srt lt (a1 ++ a2)) (h1 : ∀ x, a1.getLast? = some x → lt y x = false) (h2 : ∀ x, a2.head? = some x → lt y x = true) : mrg lt (a1 ++ a2) [y] = a1 ++ y :: a2 := by
  have := mrg_cut (b1 := []) (b2 := [y]) h ha (List.pairwise_singleton _ _) (fun x z hx hz => by simp at hz; subst hz; exact h1 x hx) (by simp)
  rw [List.nil_append, mrg_nil_right] at this
  rw [this]
  congr 1
  cases a2 with
  | nil => rw [mrg_nil_left]
  | cons x a2 => rw [mrg_cons, h2 x rfl, if_pos rfl, mrg_nil_right]

theorem get_b {α : Type} {p a b q : List α} {k n : Nat} {y : α} (h : b[k]? = some y) (hn : n = p.length + a.length + k) : (p ++ a ++ b ++ q)[n]? = some y := by
  subst hn
  have hk := (List.getElem?_eq_some_iff.1 h).1
  rw [List.getElem?_append_left (by simp; omega), List.getElem?_append_right (by simp), show p.length + a.length + k - (p ++ a).length = k by simp, h]
theorem get_a {α : Type} {p a b q : List α} {k n : Nat} {y : α} (h : a[k]? = some y) (hn : n = p.length + k) : (p ++ a ++ b ++ q)[n]? = some y := by
  subst hn
  have hk := (List.getElem?_eq_some_iff.1 h).1
  rw [List.append_assoc, List.getElem?_append_left (by simp; omega), List.getElem?_append_right (by simp), show p.length + k - p.length = k by omega, h]

theorem mrg_none {α : Type} (lt : α → α → Bool) {a b : List α} (h : a = [] ∨ b = []) : mrg lt a b = a ++ b := by
  rcases h with rfl | rfl
  · rw [mrg_nil_left]; rfl
  · rw [mrg_nil_right, List.append_nil]

theorem last_get {α : Type} {l : List α} {x : α} (h : l.getLast? = some x) : 0 < l.length ∧ l[l.length - 1]? = some x := by
  rw [List.getLast?_eq_getElem?] at h
  exact ⟨by have := (List.getElem?_eq_some_iff.1 h).1; omega, h⟩
theorem head_get {α : Type} {l : List α} {x : α} (h : l.head? = some x) : 0 < l.length ∧ l[0]? = some x := by
  cases l with
  | nil => cases h
  | cons y l => exact ⟨by simp, h⟩

/-- Where the search ends, both lists may be cut. -/
theorem mrg_sym {α : Type} {lt : α → α → Bool} (h : Below3 lt) {a1 a2 b1 b2 : List α} {lo hi m : Nat} (ha : Srt lt (a1 ++ a2)) (hb : Srt lt (b1 ++ b2)) (hm : a1.length + b1.length = m) (hlo : lo = 0 ∨ m = lo + (b1.length + b2.length)) (hhi : hi = a1.length + a2.length ∨ hi = m)
    (h1 : a1.length = lo ∨ ∃ y z, (a1 ++ a2)[a1.length - 1]? = some z ∧ (b1 ++ b2)[m - a1.length]? = some y ∧ lt y z = false) (h2 : a1.length = hi ∨ ∃ y z, (a1 ++ a2)[a1.length]? = some z ∧ (b1 ++ b2)[m - 1 - a1.length]? = some y ∧ lt y z = true) :
    mrg lt (a1 ++ a2) (b1 ++ b2) = mrg lt a1 b1 ++ mrg lt a2 b2 := by
  refine mrg_cut h ha hb (fun x y hx hy => ?_) (fun x y hx hy => ?_)
  · obtain ⟨l1, hx⟩ := last_get hx
    obtain ⟨l2, hy⟩ := head_get hy
    rcases h1 with h1 | ⟨y', x', g1, g2, g3⟩
    · rcases hlo with hlo | hlo <;> omega
    · rw [List.getElem?_append_left (by omega), hx] at g1
      rw [show m - a1.length = b1.length by omega, List.getElem?_append_right (Nat.le_refl _), Nat.sub_self, hy] at g2
      injection g1 with g1; injection g2 with g2
      rw [g1, g2]; exact g3
  · obtain ⟨l1, hx⟩ := head_get hx
    obtain ⟨l2, hy⟩ := last_get hy
    rcases h2 with h2 | ⟨y', x', g1, g2, g3⟩
    · rcases hhi with hhi | hhi <;> omega
    · rw [List.getElem?_append_right (Nat.le_refl _), Nat.sub_self, hx] at g1
      rw [show m - 1 - a1.length = b1.length - 1 by omega, List.getElem?_append_left (by omega), hy] at g2
      injection g1 with g1; injection g2 with g2
      rw [g1, g2]; exact g3

theorem get_some {α : Type} {l : List α} {k : Nat} (h : k < l.length) : ∃ x, l[k]? = some x ∧ x ∈ l := ⟨l[k], List.getElem?_eq_getElem h, List.getElem_mem h⟩

theorem wsub {x y z : Nat} (h : x = y + z) (hb : x ≤ 9007199254740992) : IntKind.i64.wrap ((x : Int) - (y : Int)) = (z : Int) := by
  rw [wrap_i64_of (by omega) (by omega)]; omega
theorem wsub1 {x z : Nat} (h : x = z + 1) (hb : x ≤ 9007199254740992) : IntKind.i64.wrap ((x : Int) - 1) = (z : Int) := by
  rw [wrap_i64_of (by omega) (by omega)]; omega
theorem wadd {x y z : Nat} (h : x + y = z) (hb : z ≤ 9007199254740992) : IntKind.i64.wrap ((x : Int) + (y : Int)) = (z : Int) := by
  rw [wrap_i64_of (by omega) (by omega)]; omega
theorem wadd1 {x z : Nat} (h : x + 1 = z) (hb : z ≤ 9007199254740992) : IntKind.i64.wrap ((x : Int) + 1) = (z : Int) := by
  rw [wrap_i64_of (by omega) (by omega)]; omega

/-- A fact that is kept from being split. -/
def Hid (p : Prop) : Prop := p

theorem sy1 {lo k h bl : Nat} (h1 : lo ≤ k) (h2 : k < h) (h3 : h ≤ lo + bl) : h - 1 - k < bl := by omega
theorem sy2 {P s t : Nat} : (P + s + (P + t)) / 2 = P + (s + t) / 2 := by omega
theorem sy3 {s t : Nat} (h : s < t) : s ≤ (s + t) / 2 ∧ (s + t) / 2 < t := by omega
theorem sy4 {P h M Z k : Nat} (hZ : P + h + M = Z + 1) (hk : k < h) : Z = P + k + (M + (h - 1 - k)) := by omega
theorem sy5 {P M al s t : Nat} (h1 : s < t) (h2 : t ≤ al) (h3 : P + al = M) (h4 : M ≤ 281474976710656) : P + s + (P + t) ≤ 562949953421312 := by omega
theorem sy6 {M N bl L j : Nat} (h1 : j < bl) (h2 : M + bl = N) (h3 : N ≤ L) : ((M + j : Nat) : Int) < (L : Int) := by omega
theorem sy7 {h k : Nat} (hk : k < h) : h - (k + 1) = h - 1 - k := by omega
theorem sy8 {lo s h bl : Nat} (h1 : lo ≤ s) (h3 : h ≤ lo + bl) : h - s ≤ bl := by omega
theorem sy9 {P h M s b1 : Nat} (h1 : b1 = h - s) (h2 : s ≤ h) : P + h + M = P + s + (M + b1) := by omega
theorem len_swap {α : Type} (p a1 a2 b1 b2 q : List α) : (p ++ (a1 ++ a2) ++ (b1 ++ b2) ++ q).length = (p ++ a1 ++ b1 ++ (a2 ++ b2 ++ q)).length := by simp; omega
theorem len_swap2 {α : Type} (lt : α → α → Bool) (p a1 a2 b1 b2 q : List α) : (p ++ (a1 ++ a2) ++ (b1 ++ b2) ++ q).length = (p ++ mrg lt a1 b1 ++ a2 ++ b2 ++ q).length := by simp [mrg_len]; omega
theorem len_pos {α : Type} {l : List α} : decide (0 < l.length) = !l.isEmpty := by cases l <;> simp
theorem dlt {a b n : Nat} (h : b = a + n) : decide (a < b) = decide (0 < n) := decide_eq_decide.2 (by omega)

end Go.Proofs.Ytgablplpdocniaa
