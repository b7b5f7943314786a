/- Rings out of shapes. No statement of the seat is proved here. -/
import Derived.Test.YtmjlldlaigoflaaGreatLdAccM
import Derived.Test.YtmjlldlaigoflaaGreatRowBase
import Derived.Test.YtmjlldlaigoflaaGreatSxRow
import Derived.ProofKit
set_option linter.unusedSimpArgs false
set_option linter.unusedVariables false
namespace Go.Proofs.YtmjlldlaigoflaaGreat
open Go Go.Sx Go.ChangeShapes Go.WideShapes Go.ChangeAt Go.RowKit

theorem pairsB_of {es : List (List T)} (h : ∀ c ∈ es, okSs [.it .i64, .it .i64] c) : ∃ l : List Slot, es = l.map slT ∧ InS l := by
  induction es with
  | nil => exact ⟨[], rfl, by intro s hs; simp at hs⟩
  | cons e es ih =>
    obtain ⟨l, rfl, hl⟩ := ih (fun c hc => h c (by simp [hc]))
    have he := h e (by simp)
    simp only [okSs, okS] at he
    obtain ⟨_, _, rfl, ⟨i, rfl, _⟩, _, _, rfl, ⟨j, rfl, hj⟩, rfl⟩ := he
    refine ⟨(i, j) :: l, rfl, ?_⟩
    intro s hs
    rcases List.mem_cons.1 hs with rfl | hs
    · exact i64_wf hj
    · exact hl s hs

theorem rings_of {es : List (List T)} (h : ∀ c ∈ es, okSs [.it .i64, .sl 2 (.st [.it .i64, .it .i64])] c) : ∃ l : List Ring, es = l.map rgT ∧ (∀ r ∈ l, InS r.2) ∧ ∀ r ∈ l, r.2.length ≤ reachBytes := by
  induction es with
  | nil => exact ⟨[], rfl, by simp, by simp⟩
  | cons e es ih =>
    obtain ⟨l, rfl, hl, hl2⟩ := ih (fun c hc => h c (by simp [hc]))
    have he := h e (by simp)
    simp only [okSs, okS] at he
    obtain ⟨_, _, rfl, ⟨i, rfl, _⟩, _, _, rfl, ⟨ps, rfl, hb, hp⟩, rfl⟩ := he
    obtain ⟨s, rfl, hs⟩ := pairsB_of (fun c hc => by simpa only [okSs, okS] using hp c hc)
    refine ⟨(i, s) :: l, rfl, ?_, ?_⟩
    · intro r hr
      rcases List.mem_cons.1 hr with rfl | hr
      · exact hs
      · exact hl r hr
    · intro r hr
      rcases List.mem_cons.1 hr with rfl | hr
      · simpa using hb
      · exact hl2 r hr

end Go.Proofs.YtmjlldlaigoflaaGreat
