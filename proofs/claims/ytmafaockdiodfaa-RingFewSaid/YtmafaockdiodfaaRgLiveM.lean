/- Slots in order, in plain words. No statement of the seat is proved here. -/
import Derived.Test.YtmafaockdiodfaaRgMath
set_option linter.unusedSimpArgs false
set_option linter.unusedVariables false
namespace Go.Proofs.Ytmafaockdiodfaa
open Go Go.Sx

/-- A slot comes to its place, behind those that aren't later. -/
def insS (s : Slot) : List Slot → List Slot
  | [] => [s]
  | x :: l => if s.1 < x.1 then s :: x :: l else x :: insS s l
def sortS (l : List Slot) : List Slot := l.foldl (fun acc s => insS s acc) []
def liveM (w : Int) (l : List Slot) : List Slot := if ringB w l then sortS (l.filter fun s => !decide (s.1 = -1)) else []
def Asc (l : List Slot) : Prop := l.Pairwise fun a b => a.1 < b.1

theorem ins_perm (s : Slot) : ∀ l : List Slot, (insS s l).Perm (s :: l)
  | [] => List.Perm.refl _
  | x :: l => by
    simp only [insS]
    split
    · exact List.Perm.refl _
    · exact ((ins_perm s l).cons x).trans (List.Perm.swap s x l)

theorem ins_asc {s : Slot} : ∀ {l : List Slot}, Asc l → (∀ x ∈ l, x.1 ≠ s.1) → Asc (insS s l)
  | [], _, _ => by simp [insS, Asc]
  | x :: l, h, hn => by
    simp only [insS]
    unfold Asc at h ⊢
    rw [List.pairwise_cons] at h
    have hx := hn x (by simp)
    split
    · rename_i hlt
      refine List.pairwise_cons.2 ⟨?_, List.pairwise_cons.2 h⟩
      intro y hy
      rcases List.mem_cons.1 hy with rfl | hy
      · exact hlt
      · have := h.1 y hy; omega
    · rename_i hlt
      refine List.pairwise_cons.2 ⟨?_, ins_asc h.2 (fun y hy => hn y (by simp [hy]))⟩
      intro y hy
      rcases List.mem_cons.1 ((ins_perm s l).mem_iff.1 hy) with rfl | hy
      · omega
      · exact h.1 y hy

theorem fold_perm : ∀ (l acc : List Slot), (l.foldl (fun acc s => insS s acc) acc).Perm (acc ++ l)
  | [], acc => by simp
  | s :: l, acc => by
    simp only [List.foldl_cons]
    refine (fold_perm l (insS s acc)).trans ?_
    refine ((ins_perm s acc).append_right l).trans ?_
    simpa using (List.perm_middle (a := s) (l₁ := acc) (l₂ := l)).symm

theorem sort_perm (l : List Slot) : (sortS l).Perm l := fold_perm l []

theorem fold_asc : ∀ (l acc : List Slot), Asc acc → (acc ++ l).Pairwise (fun a b => a.1 ≠ b.1) → Asc (l.foldl (fun acc s => insS s acc) acc)
  | [], acc, h, _ => h
  | s :: l, acc, h, hn => by
    simp only [List.foldl_cons]
    rw [List.pairwise_append] at hn
    obtain ⟨h1, h2, h3⟩ := hn
    rw [List.pairwise_cons] at h2
    refine fold_asc l _ (ins_asc h (fun x hx => h3 x hx s (by simp))) ?_
    have hp : (insS s acc ++ l).Perm (s :: acc ++ l) := (ins_perm s acc).append_right l
    refine (List.Perm.pairwise_iff (fun h => Ne.symm h) hp).2 ?_
    rw [List.cons_append, List.pairwise_cons, List.pairwise_append]
    refine ⟨?_, h1, h2.2, fun a ha b hb => h3 a ha b (by simp [hb])⟩
    intro x hx
    rcases List.mem_append.1 hx with hx | hx
    · exact (h3 x hx s (by simp)).symm
    · exact h2.1 x hx

theorem sort_asc {l : List Slot} (h : l.Pairwise fun a b => a.1 ≠ b.1) : Asc (sortS l) := fold_asc l [] (by simp [Asc]) (by simpa using h)

/-- There is one order alone. -/
theorem asc_uniq : ∀ {a b : List Slot}, Asc a → Asc b → a.Perm b → a = b
  | [], b, _, _, hp => by rw [hp.nil_eq]
  | x :: a, b, ha, hb, hp => by
    cases b with
    | nil => exact absurd hp.symm.nil_eq (by simp)
    | cons y b =>
      unfold Asc at ha hb
      rw [List.pairwise_cons] at ha hb
      have hxy : x = y := by
        have h1 : x ∈ y :: b := hp.mem_iff.1 (by simp)
        have h2 : y ∈ x :: a := hp.mem_iff.2 (by simp)
        rcases List.mem_cons.1 h1 with h1 | h1
        · exact h1
        · rcases List.mem_cons.1 h2 with h2 | h2
          · exact h2.symm
          · have := hb.1 x h1; have := ha.1 y h2; omega
      subst hxy
      rw [asc_uniq ha.2 hb.2 (List.Perm.cons_inv hp)]

/-- Live slots of a ring have times of their own. -/
theorem live_ne {w : Int} {l : List Slot} (h : ringB w l = true) : (l.filter fun s => !decide (s.1 = -1)).Pairwise fun a b => a.1 ≠ b.1 := by
  simp only [ringB, Bool.and_eq_true] at h
  have hs := h.2
  have key : ∀ (k : List Slot) (i : Int), slotsB w l.length i k = true → (k.filter fun s => !decide (s.1 = -1)).Pairwise (fun a b => a.1 ≠ b.1) ∧ ∀ s ∈ k.filter (fun s => !decide (s.1 = -1)), i ≤ s.1 / w % (l.length : Int) := by
    intro k
    induction k with
    | nil => intro i _; simp
    | cons s k ih =>
      intro i hk
      simp only [slotsB, Bool.and_eq_true] at hk
      obtain ⟨h1, h2⟩ := ih (i + 1) hk.2
      by_cases hs1 : s.1 = -1
      · rw [List.filter_cons_of_neg (by simp [hs1])]
        exact ⟨h1, fun x hx => by have := h2 x hx; omega⟩
      · rw [List.filter_cons_of_pos (by simp [hs1])]
        have hp : s.1 / w % (l.length : Int) = i := by
          have := hk.1
          simp only [slotB, Bool.or_eq_true, Bool.and_eq_true, beq_iff_eq] at this
          rcases this with this | this
          · exact absurd this.1 hs1
          · exact this.2
        refine ⟨List.pairwise_cons.2 ⟨?_, h1⟩, ?_⟩
        · intro x hx e
          have := h2 x hx
          rw [← e, hp] at this; omega
        · intro x hx
          rcases List.mem_cons.1 hx with rfl | hx
          · omega
          · have := h2 x hx; omega
  exact (key l 0 hs).1

theorem live_len (w : Int) (l : List Slot) : (liveM w l).length ≤ l.length := by
  unfold liveM
  split
  · rw [(sort_perm _).length_eq]; exact List.length_filter_le _ _
  · simp

theorem sort_take {l : List Slot} {i : Nat} {s : Slot} (h : l[i]? = some s) : sortS (l.take (i + 1)) = insS s (sortS (l.take i)) := by
  unfold sortS
  rw [List.take_add_one, h, List.foldl_append]; rfl

end Go.Proofs.Ytmafaockdiodfaa
