/- The rows on ladders, proved: whatever the input. -/
import Derived.Test.YtmjlldlaigoflaaLdLaw
import Derived.Test.YtmjlldlaigoflaaRowBase
import Derived.ProofKit
set_option linter.unusedSimpArgs false
set_option linter.unusedVariables false
namespace Go.Proofs.Ytmjlldlaigoflaa
open Go Go.Sx Go.ChangeShapes Go.WideShapes Go.ChangeAt Go.RowKit

theorem ints_of {es : List (List T)} (h : ∀ c ∈ es, okS (.it .i64) c) : ∃ l : List Int, es = l.map iT ∧ InL l := by
  induction es with
  | nil => exact ⟨[], rfl, by intro v hv; simp at hv⟩
  | cons e es ih =>
    obtain ⟨l, rfl, hl⟩ := ih (fun c hc => h c (by simp [hc]))
    have he := h e (by simp)
    simp only [okS] at he
    obtain ⟨i, rfl, hi⟩ := he
    refine ⟨i :: l, rfl, ?_⟩
    intro v hv
    rcases List.mem_cons.1 hv with rfl | hv
    · exact i64_wf hi
    · exact hl v hv

theorem pairs_of {es : List (List T)} (h : ∀ c ∈ es, okSs [.it .i64, .it .i64] c) : ∃ l : List Slot, es = l.map slT ∧ ∀ s ∈ l, (-9223372036854775808 ≤ s.1 ∧ s.1 < 9223372036854775808) ∧ (-9223372036854775808 ≤ s.2 ∧ s.2 < 9223372036854775808) := by
  induction es with
  | nil => exact ⟨[], rfl, by simp⟩
  | cons e es ih =>
    obtain ⟨l, rfl, hl⟩ := ih (fun c hc => h c (by simp [hc]))
    have he := h e (by simp)
    simp only [okSs, okS] at he
    obtain ⟨_, _, rfl, ⟨i, rfl, hi⟩, _, _, rfl, ⟨j, rfl, hj⟩, rfl⟩ := he
    refine ⟨(i, j) :: l, rfl, ?_⟩
    intro s hs
    rcases List.mem_cons.1 hs with rfl | hs
    · exact ⟨i64_wf hi, i64_wf hj⟩
    · exact hl s hs

theorem ok_LadderBlends : ∀ xs, okArgsS [(false, .it .i64), (false, .sl 1 (.it .i64)), (true, .st [.sl 2 (.st [.it .i64, .it .i64]), .it .i64, .it .i64])] xs → Meets Try.prog E0 n_law14_LadderBlends xs [] (Bo true) [] := by
  intro xs h
  simp only [okArgsS, okS, okSs, if_true, if_false, Bool.false_eq_true] at h
  obtain ⟨_, _, rfl, ⟨m, rfl, hm⟩, _, _, rfl, ⟨es, rfl, _, he⟩, _, _, rfl, ⟨_, _, rfl, ⟨ps, rfl, _, hp⟩, _, _, rfl, ⟨sm, rfl, _⟩, _, _, rfl, ⟨sf, rfl, _⟩, rfl⟩, rfl⟩ := h
  obtain ⟨l, rfl, hl⟩ := ints_of (fun c hc => by simpa only [okS] using he c hc)
  obtain ⟨rs, rfl, _⟩ := pairs_of (fun c hc => by simpa only [okSs, okS] using hp c hc)
  exact f_law14_LadderBlends m l rs sm sf hl

set_option maxRecDepth 100000 in
theorem ladderBlends_lifted (os : Os) (started : os.Started) (H : Type) (enc : TypeId × Value → H) :
    ReturnsInHanded {} Try.checked os 4 .any (Rows.ladderBlendsSpec.pre6 enc Try.prog Try.f4 Rows.ladderBlendsRow.domain false) (Rows.ladderBlendsSpec.post enc Try.prog Try.f4 false true false false) := by
  refine returnsInHanded_of_change_sized (C := Try.checked) Try.own started (by kernel_rfl) Try.func4
    (ChangeSpec.witness6 (enc := enc) (C := Try.checked) false ⟨#[], #[.int .i64 0, .slice none 0 0, .agg #[.slice none 0 0, .int .i64 0, .int .i64 0]], []⟩ 8 (by kernel_rfl) (by kernel_rfl) (by kernel_rfl) (by kernel_rfl)) ?_
  intro W base args ds gs before hval hW hcnd hwt _
  refine law_post2 (E := E0) (m := 8) (ss := [(false, .it .i64), (false, .sl 1 (.it .i64)), (true, .st [.sl 2 (.st [.it .i64, .it .i64]), .it .i64, .it .i64])]) Try.laidOut (by kernel_rfl) Try.func4 trivial (fun b h => h.elim) rfl rfl (by kernel_rfl) ?_ (by kernel_rfl) (by kernel_rfl) hval hW hwt ok_LadderBlends
  intro ds h
  rcases ds with _ | ⟨d1, _ | ⟨d2, _ | ⟨d3, _ | ⟨d4, r⟩⟩⟩⟩ <;> first | rfl | (simp [Try.params4] at h)

theorem ladderBlends_holds : Rows.LadderBlendsSaid :=
  OpenClaim.holds_of_wide 4 Try.f4 rfl rfl rfl rfl rfl rfl rfl ⟨rfl, rfl, rfl, rfl, rfl⟩ rfl rfl rfl rfl rfl (by kernel_rfl) Try.func4 (by kernel_rfl)
    (of_decide_eq_true (by kernel_rfl)) (by unfold Func.isWrapper; first | (rw [if_pos (by decide +kernel)]; kernel_rfl) | (rw [if_neg (by decide +kernel)]; exact ⟨rfl, rfl⟩))
    (fun os started H enc _ => ladderBlends_lifted os started H enc)

end Go.Proofs.Ytmjlldlaigoflaa
