/- New rings, and slots that are set, in plain words. No statement of the seat is proved here. -/
import Derived.Test.YtmjlldlaigoflaaGreatLdAccM
set_option linter.unusedSimpArgs false
set_option linter.unusedVariables false
namespace Go.Proofs.YtmjlldlaigoflaaGreat
open Go Go.Sx

theorem rung_new {r : Rung} (h : szB r = true) : rungM (newR r) = r := by
  have := szB_iff.1 h
  simp only [rungM, newR, List.length_replicate]
  exact Prod.ext rfl (by simp only; omega)

theorem ring_new_ok {r : Rung} (h : szB r = true) : goodR (newR r) := by
  have h' := szB_iff.1 h
  have hl : ((List.replicate r.2.toNat ((-1, 0) : Slot)).length : Int) = r.2 := by simp; omega
  refine ⟨?_, ?_⟩
  · show ringB r.1 (List.replicate r.2.toNat (-1, 0)) = true
    unfold ringB
    rw [hl]
    have hs : sizedB r.1 r.2 = true := h
    rw [hs, Bool.true_and]
    have key : ∀ (n : Nat) (i : Int), slotsB r.1 r.2 i (List.replicate n ((-1, 0) : Slot)) = true := by
      intro n
      induction n with
      | zero => intro i; rfl
      | succ n ih => intro i; simp [List.replicate_succ, slotsB, ih, slotB]
    exact key _ _
  · intro s hs
    obtain ⟨_, rfl⟩ := List.mem_replicate.1 hs
    exact ⟨by decide, by decide⟩

theorem map_new_ok {rs : List Rung} (h : rs.all szB = true) : (∀ r ∈ rs.map newR, goodR r) ∧ (rs.map newR).map rungM = rs := by
  constructor
  · intro r hr
    obtain ⟨x, hx, rfl⟩ := List.mem_map.1 hr
    exact ring_new_ok (List.all_eq_true.1 h x hx)
  · rw [List.map_map]
    have : ∀ x ∈ rs, (rungM ∘ newR) x = x := fun x hx => rung_new (List.all_eq_true.1 h x hx)
    exact (List.map_congr_left this).trans (List.map_id _)

theorem lad_of {m f : Int} {rs : List Rung} {l : List Ring} (h1 : howB m f = true) (h2 : togB rs = true) (h3 : ∀ r ∈ l, goodR r) (h4 : l.map rungM = rs) : ladB m f l = true := by
  simp only [ladB, h1, h4, h2, Bool.true_and, Bool.and_true]
  exact List.all_eq_true.2 fun r hr => (h3 r hr).1

/-- Two numbers that differ by less than a ring's slots have two places. -/
theorem place_ne {q c : Int} {i j : Int} (hij : j < i) (hc : i - j < c) : (q + j) % c ≠ (q + i) % c := by
  intro h
  have h1 := Int.emod_eq_emod_iff_emod_sub_eq_zero.1 h.symm
  rw [show q + i - (q + j) = i - j by omega, Int.emod_eq_of_lt (by omega) hc] at h1
  omega

theorem value_set {w : Int} {l : List Slot} {k : Nat} {s : Slot} {T : Int} (hl : 0 < l.length) : valueM w (l.set k s) T = if k = placeM w l T then (if s.1 = T then (false, s.2) else (true, 0)) else valueM w l T := by
  have hp : placeM w (l.set k s) T = placeM w l T := by simp [placeM]
  have hlt := placeM_lt (w := w) hl T
  unfold valueM
  rw [hp, List.getElem?_set]
  by_cases hk : k = placeM w l T
  · subst hk; simp [hlt]
  · simp [hk]

theorem divw {w q j : Int} (hw : 0 < w) : (w * q + j * w) / w = q + j := by
  rw [Int.mul_comm j w, ← Int.mul_add, Int.mul_ediv_cancel_left _ (by omega)]

end Go.Proofs.YtmjlldlaigoflaaGreat
