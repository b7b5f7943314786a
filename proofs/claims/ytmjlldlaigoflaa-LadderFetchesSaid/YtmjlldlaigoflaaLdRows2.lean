/- The row on accepted points, proved: whatever the input. -/
import Derived.Test.YtmjlldlaigoflaaLdLaw2
import Derived.Test.YtmjlldlaigoflaaRowBase
import Derived.ProofKit
set_option linter.unusedSimpArgs false
set_option linter.unusedVariables false
namespace Go.Proofs.Ytmjlldlaigoflaa
open Go Go.Sx Go.ChangeShapes Go.WideShapes Go.ChangeAt Go.RowKit

theorem pairsB_of {es : List (List T)} (h : ∀ c ∈ es, okSs [.it .i64, .it .i64] c) : ∃ l : List Slot, es = l.map slT ∧ InS l := by
  induction es with
  | nil => exact ⟨[], rfl, by intro s hs; simp at hs⟩
  | cons e es ih =>
    obtain ⟨l, rfl, hl⟩ := ih (fun c hc => h c (by simp [hc]))
    have he := h e (by simp)
    simp only [okSs, okS] at he
    obtain ⟨_, _, rfl, ⟨i, rfl, _⟩, _, _, rfl, ⟨j, rfl, hj⟩, rfl⟩ := he
    refine ⟨(i, j) :: l, rfl, ?_⟩
    intro s hs
    rcases List.mem_cons.1 hs with rfl | hs
    · exact i64_wf hj
    · exact hl s hs

theorem rings_of {es : List (List T)} (h : ∀ c ∈ es, okSs [.it .i64, .sl 2 (.st [.it .i64, .it .i64])] c) : ∃ l : List Ring, es = l.map rgT ∧ (∀ r ∈ l, InS r.2) ∧ ∀ r ∈ l, r.2.length ≤ reachBytes := by
  induction es with
  | nil => exact ⟨[], rfl, by simp, by simp⟩
  | cons e es ih =>
    obtain ⟨l, rfl, hl, hl2⟩ := ih (fun c hc => h c (by simp [hc]))
    have he := h e (by simp)
    simp only [okSs, okS] at he
    obtain ⟨_, _, rfl, ⟨i, rfl, _⟩, _, _, rfl, ⟨ps, rfl, hb, hp⟩, rfl⟩ := he
    obtain ⟨s, rfl, hs⟩ := pairsB_of (fun c hc => by simpa only [okSs, okS] using hp c hc)
    refine ⟨(i, s) :: l, rfl, ?_, ?_⟩
    · intro r hr
      rcases List.mem_cons.1 hr with rfl | hr
      · exact hs
      · exact hl r hr
    · intro r hr
      rcases List.mem_cons.1 hr with rfl | hr
      · simpa using hb
      · exact hl2 r hr

theorem ok_LadderAccepts : ∀ xs, okArgsS [(true, .st [.it .i64, .it .i64, .sl 2 (.st [.it .i64, .sl 2 (.st [.it .i64, .it .i64])])]), (true, .st [.it .i64, .it .i64]), (false, .it .i64)] xs → Meets Try.prog E0 n_law14_LadderAccepts xs [] (Bo true) [] := by
  intro xs h
  simp only [okArgsS, okS, okSs, if_true, if_false, Bool.false_eq_true] at h
  obtain ⟨_, _, rfl, ⟨_, _, rfl, ⟨m, rfl, _⟩, _, _, rfl, ⟨f, rfl, _⟩, _, _, rfl, ⟨es, rfl, hb, he⟩, rfl⟩, _, _, rfl, ⟨_, _, rfl, ⟨t, rfl, _⟩, _, _, rfl, ⟨v, rfl, hv⟩, rfl⟩, _, _, rfl, ⟨now, rfl, _⟩, rfl⟩ := h
  obtain ⟨l, rfl, hl, hl2⟩ := rings_of (fun c hc => by simpa only [okSs, okS] using he c hc)
  have hv2 := i64_wf hv
  exact f_law14_LadderAccepts m f l t v now (by simpa using hb) hl2 hl hv2.1 hv2.2

set_option maxRecDepth 100000 in
theorem ladderAccepts_lifted (os : Os) (started : os.Started) (H : Type) (enc : TypeId × Value → H) :
    ReturnsInHanded {} Try.checked os 3 .any (Rows.ladderAcceptsSpec.pre6 enc Try.prog Try.f3 Rows.ladderAcceptsRow.domain false) (Rows.ladderAcceptsSpec.post enc Try.prog Try.f3 false true false false) := by
  refine returnsInHanded_of_change_sized (C := Try.checked) Try.own started (by kernel_rfl) Try.func3
    (ChangeSpec.witness6 (enc := enc) (C := Try.checked) false ⟨#[], #[.agg #[.int .i64 0, .int .i64 0, .slice none 0 0], .agg #[.int .i64 0, .int .i64 0], .int .i64 0], []⟩ 8 (by kernel_rfl) (by kernel_rfl) (by kernel_rfl) (by kernel_rfl)) ?_
  intro W base args ds gs before hval hW hcnd hwt _
  refine law_post2 (E := E0) (m := 8) (ss := [(true, .st [.it .i64, .it .i64, .sl 2 (.st [.it .i64, .sl 2 (.st [.it .i64, .it .i64])])]), (true, .st [.it .i64, .it .i64]), (false, .it .i64)]) Try.laidOut (by kernel_rfl) Try.func3 trivial (fun b h => h.elim) rfl rfl (by kernel_rfl) ?_ (by kernel_rfl) (by kernel_rfl) hval hW hwt ok_LadderAccepts
  intro ds h
  rcases ds with _ | ⟨d1, _ | ⟨d2, _ | ⟨d3, _ | ⟨d4, r⟩⟩⟩⟩ <;> first | rfl | (simp [Try.params3] at h)

theorem ladderAccepts_holds : Rows.LadderAcceptsSaid :=
  OpenClaim.holds_of_wide 3 Try.f3 rfl rfl rfl rfl rfl rfl rfl ⟨rfl, rfl, rfl, rfl, rfl⟩ rfl rfl rfl rfl rfl (by kernel_rfl) Try.func3 (by kernel_rfl)
    (of_decide_eq_true (by kernel_rfl)) (by unfold Func.isWrapper; first | (rw [if_pos (by decide +kernel)]; kernel_rfl) | (rw [if_neg (by decide +kernel)]; exact ⟨rfl, rfl⟩))
    (fun os started H enc _ => ladderAccepts_lifted os started H enc)

end Go.Proofs.Ytmjlldlaigoflaa
