/- The row on what is fetched of ladders, proved: whatever the input. -/
import Derived.Test.YtmjlldlaigoflaaLdFetch4
import Derived.Test.YtmjlldlaigoflaaRowBase
import Derived.Test.YtmjlldlaigoflaaLdRows2
import Derived.ProofKit
set_option linter.unusedSimpArgs false
set_option linter.unusedVariables false
namespace Go.Proofs.Ytmjlldlaigoflaa
open Go Go.Sx Go.ChangeShapes Go.WideShapes Go.ChangeAt Go.RowKit

theorem ok_LadderFetches : ∀ xs, okArgsS [(true, .st [.it .i64, .it .i64, .sl 2 (.st [.it .i64, .sl 2 (.st [.it .i64, .it .i64])])]), (true, .st [.it .i64, .it .i64, .it .i64])] xs → Meets Try.prog E0 n_law14_LadderFetches xs [] (Bo true) [] := by
  intro xs h
  simp only [okArgsS, okS, okSs, if_true, if_false, Bool.false_eq_true] at h
  obtain ⟨_, _, rfl, ⟨_, _, rfl, ⟨m, rfl, _⟩, _, _, rfl, ⟨f, rfl, _⟩, _, _, rfl, ⟨es, rfl, hb, he⟩, rfl⟩, _, _, rfl, ⟨_, _, rfl, ⟨fr, rfl, _⟩, _, _, rfl, ⟨un, rfl, _⟩, _, _, rfl, ⟨now, rfl, _⟩, rfl⟩, rfl⟩ := h
  obtain ⟨l, rfl, hl, hl2⟩ := rings_of (fun c hc => by simpa only [okSs, okS] using he c hc)
  exact f_law14_LadderFetches m f l fr un now (by simpa using hb) hl2

set_option maxRecDepth 100000 in
theorem ladderFetches_lifted (os : Os) (started : os.Started) (H : Type) (enc : TypeId × Value → H) :
    ReturnsInHanded {} Try.checked os 8 .any (Rows.ladderFetchesSpec.pre6 enc Try.prog Try.f8 Rows.ladderFetchesRow.domain false) (Rows.ladderFetchesSpec.post enc Try.prog Try.f8 false true false false) := by
  refine returnsInHanded_of_change_sized (C := Try.checked) Try.own started (by kernel_rfl) Try.func8
    (ChangeSpec.witness6 (enc := enc) (C := Try.checked) false ⟨#[], #[.agg #[.int .i64 0, .int .i64 0, .slice none 0 0], .agg #[.int .i64 0, .int .i64 0, .int .i64 0]], []⟩ 8 (by kernel_rfl) (by kernel_rfl) (by kernel_rfl) (by kernel_rfl)) ?_
  intro W base args ds gs before hval hW hcnd hwt _
  refine law_post2 (E := E0) (m := 8) (ss := [(true, .st [.it .i64, .it .i64, .sl 2 (.st [.it .i64, .sl 2 (.st [.it .i64, .it .i64])])]), (true, .st [.it .i64, .it .i64, .it .i64])]) Try.laidOut (by kernel_rfl) Try.func8 trivial (fun b h => h.elim) rfl rfl (by kernel_rfl) ?_ (by kernel_rfl) (by kernel_rfl) hval hW hwt ok_LadderFetches
  intro ds h
  rcases ds with _ | ⟨d1, _ | ⟨d2, _ | ⟨d3, r⟩⟩⟩ <;> first | rfl | (simp [Try.params8] at h)

theorem ladderFetches_holds : Rows.LadderFetchesSaid :=
  OpenClaim.holds_of_wide 8 Try.f8 rfl rfl rfl rfl rfl rfl rfl ⟨rfl, rfl, rfl, rfl, rfl⟩ rfl rfl rfl rfl rfl (by kernel_rfl) Try.func8 (by kernel_rfl)
    (of_decide_eq_true (by kernel_rfl)) (by unfold Func.isWrapper; first | (rw [if_pos (by decide +kernel)]; kernel_rfl) | (rw [if_neg (by decide +kernel)]; exact ⟨rfl, rfl⟩))
    (fun os started H enc _ => ladderFetches_lifted os started H enc)

end Go.Proofs.Ytmjlldlaigoflaa
