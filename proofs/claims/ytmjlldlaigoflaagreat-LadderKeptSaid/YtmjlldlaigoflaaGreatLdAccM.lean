/- What becomes of a ladder that accepts a point, in plain words. No statement of the seat is proved here. -/
import Derived.Test.YtmjlldlaigoflaaGreatLdCap
set_option linter.unusedSimpArgs false
set_option linter.unusedVariables false
namespace Go.Proofs.YtmjlldlaigoflaaGreat
open Go Go.Sx

def goodR (r : Ring) : Prop := rgB r = true ∧ InS r.2
def setR (r : Ring) (t v : Int) : Ring := (r.1, (setM r.1 r.2 t v).1)
def stepR (m f : Int) (p r : Ring) (t now : Int) : Ring :=
  if rchsB r t now then match coarM m f p (t - t % r.1) r.1 with
    | none => r
    | some v => setR r t v
  else r
def upM (m f t now : Int) : Ring → List Ring → List Ring
  | _, [] => []
  | p, r :: l => stepR m f p r t now :: upM m f t now (stepR m f p r t now) l
def accL (m f t v now : Int) : List Ring → Option (List Ring)
  | [] => none
  | r :: l => if rchsB r t now then some (setR r t v :: upM m f t now (setR r t v) l) else (accL m f t v now l).map (r :: ·)
def accM (m f : Int) (rs : List Ring) (t v now : Int) : List Ring × Int :=
  if timedB t && timedB now && !decide (v = -9223372036854775808) && ladB m f rs then
    if now < t then (rs, 3) else match accL m f t v now rs with
      | none => (rs, 14)
      | some l => (l, 0)
  else (rs, 1)

theorem in_set {l : List Slot} (h : InS l) (k : Nat) (t v : Int) (hv : -9223372036854775808 ≤ v ∧ v < 9223372036854775808) : InS (l.set k (t, v)) := by
  intro s hs
  rcases List.mem_or_eq_of_mem_set hs with hs | hs
  · exact h s hs
  · subst hs; exact hv

theorem set_good {r : Ring} {t v : Int} (h : goodR r) (ht : timedB t = true) (h1 : -9223372036854775808 < v) (h2 : v < 9223372036854775808) : goodR (setR r t v) ∧ (setM r.1 r.2 t v).2 = 0 := by
  have hr : ringB r.1 r.2 = true := h.1
  have e := setM_ok hr ht (show v ≠ -9223372036854775808 by omega)
  refine ⟨⟨?_, ?_⟩, by rw [e]⟩
  · show ringB r.1 (setM r.1 r.2 t v).1 = true
    rw [e]; exact set_right hr ht (by omega)
  · show InS (setM r.1 r.2 t v).1
    rw [e]; exact in_set h.2 _ _ _ ⟨by omega, h2⟩

theorem blend_rt (m : Int) (l : List Int) (hl : InL l) : Rt (blendM m l) := by
  unfold blendM
  split
  · exact rt_none
  split
  · exact divM_rt _ _
  split
  · exact sum_rt _ _ rt_zero
  split
  · exact least_rt _ _ rt_none hl
  split
  · exact most_rt _ _ rt_none hl
  split
  · unfold lastM
    split
    · rename_i v hv
      exact valM_rt (hl v (List.mem_of_getLast? hv)).2
    · exact rt_none
  · exact rt_none

theorem coar_rt {m f : Int} {r : Ring} {slot step : Int} (h : InS r.2) : Rt (coarM m f r slot step) := by
  unfold coarM
  split
  · exact rt_none
  · exact blend_rt _ _ (parts_in h _ _)

theorem acc_none {m f t v now : Int} : ∀ {l : List Ring}, (∀ r ∈ l, rchsB r t now = false) → accL m f t v now l = none
  | [], _ => rfl
  | r :: l, h => by simp [accL, h r (by simp), acc_none (l := l) (fun x hx => h x (by simp [hx]))]

theorem acc_some {m f t v now : Int} {r : Ring} {post : List Ring} (hr : rchsB r t now = true) : ∀ {pre : List Ring}, (∀ x ∈ pre, rchsB x t now = false) →
    accL m f t v now (pre ++ r :: post) = some (pre ++ setR r t v :: upM m f t now (setR r t v) post)
  | [], _ => by simp [accL, hr]
  | x :: pre, h => by simp [accL, h x (by simp), acc_some hr (pre := pre) (fun y hy => h y (by simp [hy]))]

theorem idx_split (p : Ring → Bool) : ∀ (l : List Ring) (i : Nat), (idxF p l i = -1 ∧ ∀ r ∈ l, p r = false) ∨ ∃ pre r post, l = pre ++ r :: post ∧ (∀ x ∈ pre, p x = false) ∧ p r = true ∧ idxF p l i = ((i + pre.length : Nat) : Int)
  | [], i => Or.inl ⟨rfl, by simp⟩
  | r :: l, i => by
    cases hp : p r
    · rcases idx_split p l (i + 1) with ⟨h1, h2⟩ | ⟨pre, s, post, h1, h2, h3, h4⟩
      · exact Or.inl ⟨by simp [idxF, hp, h1], by intro x hx; rcases List.mem_cons.1 hx with rfl | hx; exact hp; exact h2 x hx⟩
      · refine Or.inr ⟨r :: pre, s, post, by rw [h1]; rfl, ?_, h3, ?_⟩
        · intro x hx; rcases List.mem_cons.1 hx with rfl | hx
          · exact hp
          · exact h2 x hx
        · simp only [idxF, hp, Bool.false_eq_true, if_false, h4, List.length_cons]
          congr 1; omega
    · exact Or.inr ⟨[], r, l, rfl, by simp, hp, by simp [idxF, hp]⟩

theorem mid_get {α β : Type} (f : α → β) (d : List α) (x : α) (l : List α) : ((d ++ x :: l).map f)[d.length]? = some (f x) := by simp

theorem mid_last {α β : Type} (f : α → β) (d : List α) (p : α) (l : List α) : ((d ++ [p] ++ l).map f)[d.length]? = some (f p) := by simp

theorem mid_set {α β : Type} (f : α → β) (d : List α) (x y : α) (l : List α) : ((d ++ x :: l).map f).set d.length (f y) = ((d ++ [y]) ++ l).map f := by
  simp [List.set_append]

theorem emod_le_self {t w : Int} (h : 0 ≤ t) (hw : 0 < w) : t % w ≤ t := by
  have h1 := Int.mul_ediv_add_emod t w
  have h2 : 0 ≤ w * (t / w) := Int.mul_nonneg (by omega) (Int.ediv_nonneg h (by omega))
  omega

theorem rgT_len (r : Ring) : (rgT r).length = 2 := rfl
theorem rgT_drop (r : Ring) : List.drop 2 (rgT r) = [] := rfl
theorem mid_at {α : Type} (d : List α) (x : α) (l : List α) : (d ++ x :: l)[d.length]? = some x := by simp

theorem rung_set (r : Ring) (t v : Int) : rungM (setR r t v) = rungM r := by
  unfold setR rungM setM
  split <;> simp

end Go.Proofs.YtmjlldlaigoflaaGreat
