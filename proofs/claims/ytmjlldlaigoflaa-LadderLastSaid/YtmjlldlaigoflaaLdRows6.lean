/- The row on what was accepted last, proved: whatever the input. -/
import Derived.Test.YtmjlldlaigoflaaLdLast
import Derived.Test.YtmjlldlaigoflaaRowBase
import Derived.ProofKit
set_option linter.unusedSimpArgs false
set_option linter.unusedVariables false
namespace Go.Proofs.Ytmjlldlaigoflaa
open Go Go.Sx Go.ChangeShapes Go.WideShapes Go.ChangeAt Go.RowKit

theorem arrs_of {es : List (List T)} (h : ∀ c ∈ es, okSs [.it .u8, .it .u8, .it .i64] c) : ∃ l : List Arr, es = l.map arT ∧ ∀ a ∈ l, a.1 < 256 ∧ a.2.1 < 256 ∧ -9223372036854775808 ≤ a.2.2 ∧ a.2.2 < 9223372036854775808 := by
  induction es with
  | nil => exact ⟨[], rfl, by simp⟩
  | cons e es ih =>
    obtain ⟨l, rfl, hl⟩ := ih (fun c hc => h c (by simp [hc]))
    have he := h e (by simp)
    simp only [okSs, okS] at he
    obtain ⟨_, _, rfl, ⟨a, rfl, ha⟩, _, _, rfl, ⟨b, rfl, hb⟩, _, _, rfl, ⟨c, rfl, hc⟩, rfl⟩ := he
    obtain ⟨a, ha2, rfl⟩ := u8_wf ha
    obtain ⟨b, hb2, rfl⟩ := u8_wf hb
    have hc := i64_wf hc
    refine ⟨(a, b, c) :: l, rfl, ?_⟩
    intro x hx
    rcases List.mem_cons.1 hx with rfl | hx
    · exact ⟨ha2, hb2, hc.1, hc.2⟩
    · exact hl x hx

theorem ok_LadderLast : ∀ xs, okArgsS [(false, .it .u8), (false, .it .u8), (false, .sl 3 (.st [.it .u8, .it .u8, .it .i64]))] xs → Meets Try.prog E0 n_law14_LadderLast xs [] (Bo true) [] := by
  intro xs h
  simp only [okArgsS, okS, okSs, if_true, if_false, Bool.false_eq_true] at h
  obtain ⟨_, _, rfl, ⟨st, rfl, hs⟩, _, _, rfl, ⟨ct, rfl, hc⟩, _, _, rfl, ⟨es, rfl, hb, he⟩, rfl⟩ := h
  obtain ⟨st, hs2, rfl⟩ := u8_wf hs
  obtain ⟨ct, hc2, rfl⟩ := u8_wf hc
  obtain ⟨l, rfl, hl⟩ := arrs_of (fun c hc => by simpa only [okSs, okS] using he c hc)
  exact f_law14_LadderLast st ct l hs2 hc2 (by simpa using hb) hl

set_option maxRecDepth 100000 in
theorem ladderLast_lifted (os : Os) (started : os.Started) (H : Type) (enc : TypeId × Value → H) :
    ReturnsInHanded {} Try.checked os 7 .any (Rows.ladderLastSpec.pre6 enc Try.prog Try.f7 Rows.ladderLastRow.domain false) (Rows.ladderLastSpec.post enc Try.prog Try.f7 false true false false) := by
  refine returnsInHanded_of_change_sized (C := Try.checked) Try.own started (by kernel_rfl) Try.func7
    (ChangeSpec.witness6 (enc := enc) (C := Try.checked) false ⟨#[], #[.int .u8 0, .int .u8 0, .slice none 0 0], []⟩ 8 (by kernel_rfl) (by kernel_rfl) (by kernel_rfl) (by kernel_rfl)) ?_
  intro W base args ds gs before hval hW hcnd hwt _
  refine law_post2 (E := E0) (m := 8) (ss := [(false, .it .u8), (false, .it .u8), (false, .sl 3 (.st [.it .u8, .it .u8, .it .i64]))]) Try.laidOut (by kernel_rfl) Try.func7 trivial (fun b h => h.elim) rfl rfl (by kernel_rfl) ?_ (by kernel_rfl) (by kernel_rfl) hval hW hwt ok_LadderLast
  intro ds h
  rcases ds with _ | ⟨d1, _ | ⟨d2, _ | ⟨d3, _ | ⟨d4, r⟩⟩⟩⟩ <;> first | rfl | (simp [Try.params7] at h)

theorem ladderLast_holds : Rows.LadderLastSaid :=
  OpenClaim.holds_of_wide 7 Try.f7 rfl rfl rfl rfl rfl rfl rfl ⟨rfl, rfl, rfl, rfl, rfl⟩ rfl rfl rfl rfl rfl (by kernel_rfl) Try.func7 (by kernel_rfl)
    (of_decide_eq_true (by kernel_rfl)) (by unfold Func.isWrapper; first | (rw [if_pos (by decide +kernel)]; kernel_rfl) | (rw [if_neg (by decide +kernel)]; exact ⟨rfl, rfl⟩))
    (fun os started H enc _ => ladderLast_lifted os started H enc)

end Go.Proofs.Ytmjlldlaigoflaa
