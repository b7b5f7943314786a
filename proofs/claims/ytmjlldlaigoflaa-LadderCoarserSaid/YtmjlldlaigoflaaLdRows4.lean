/- The row on coarser slots, proved: whatever the input. -/
import Derived.Test.YtmjlldlaigoflaaLdCoar
import Derived.Test.YtmjlldlaigoflaaRowBase
import Derived.Test.YtmjlldlaigoflaaLdRows
import Derived.ProofKit
set_option linter.unusedSimpArgs false
set_option linter.unusedVariables false
namespace Go.Proofs.Ytmjlldlaigoflaa
open Go Go.Sx Go.ChangeShapes Go.WideShapes Go.ChangeAt Go.RowKit

theorem ok_LadderCoarser : ∀ xs, okArgsS [(true, .st [.sl 2 (.st [.it .i64, .it .i64]), .it .i64, .it .i64]), (false, .sl 1 (.it .i64))] xs → Meets Try.prog E0 n_law14_LadderCoarser xs [] (Bo true) [] := by
  intro xs h
  simp only [okArgsS, okS, okSs, if_true, if_false, Bool.false_eq_true] at h
  obtain ⟨_, _, rfl, ⟨_, _, rfl, ⟨ps, rfl, hb, hp⟩, _, _, rfl, ⟨m, rfl, _⟩, _, _, rfl, ⟨f, rfl, _⟩, rfl⟩, _, _, rfl, ⟨es, rfl, hb2, he⟩, rfl⟩ := h
  obtain ⟨l, rfl, hl⟩ := ints_of (fun c hc => by simpa only [okS] using he c hc)
  obtain ⟨rs, rfl, _⟩ := pairs_of (fun c hc => by simpa only [okSs, okS] using hp c hc)
  exact f_law14_LadderCoarser rs m f l (by simpa using hb) hl (by simpa using hb2)

set_option maxRecDepth 100000 in
theorem ladderCoarser_lifted (os : Os) (started : os.Started) (H : Type) (enc : TypeId × Value → H) :
    ReturnsInHanded {} Try.checked os 5 .any (Rows.ladderCoarserSpec.pre6 enc Try.prog Try.f5 Rows.ladderCoarserRow.domain false) (Rows.ladderCoarserSpec.post enc Try.prog Try.f5 false true false false) := by
  refine returnsInHanded_of_change_sized (C := Try.checked) Try.own started (by kernel_rfl) Try.func5
    (ChangeSpec.witness6 (enc := enc) (C := Try.checked) false ⟨#[], #[.agg #[.slice none 0 0, .int .i64 0, .int .i64 0], .slice none 0 0], []⟩ 8 (by kernel_rfl) (by kernel_rfl) (by kernel_rfl) (by kernel_rfl)) ?_
  intro W base args ds gs before hval hW hcnd hwt _
  refine law_post2 (E := E0) (m := 8) (ss := [(true, .st [.sl 2 (.st [.it .i64, .it .i64]), .it .i64, .it .i64]), (false, .sl 1 (.it .i64))]) Try.laidOut (by kernel_rfl) Try.func5 trivial (fun b h => h.elim) rfl rfl (by kernel_rfl) ?_ (by kernel_rfl) (by kernel_rfl) hval hW hwt ok_LadderCoarser
  intro ds h
  rcases ds with _ | ⟨d1, _ | ⟨d2, _ | ⟨d3, r⟩⟩⟩ <;> first | rfl | (simp [Try.params5] at h)

theorem ladderCoarser_holds : Rows.LadderCoarserSaid :=
  OpenClaim.holds_of_wide 5 Try.f5 rfl rfl rfl rfl rfl rfl rfl ⟨rfl, rfl, rfl, rfl, rfl⟩ rfl rfl rfl rfl rfl (by kernel_rfl) Try.func5 (by kernel_rfl)
    (of_decide_eq_true (by kernel_rfl)) (by unfold Func.isWrapper; first | (rw [if_pos (by decide +kernel)]; kernel_rfl) | (rw [if_neg (by decide +kernel)]; exact ⟨rfl, rfl⟩))
    (fun os started H enc _ => ladderCoarser_lifted os started H enc)

end Go.Proofs.Ytmjlldlaigoflaa
