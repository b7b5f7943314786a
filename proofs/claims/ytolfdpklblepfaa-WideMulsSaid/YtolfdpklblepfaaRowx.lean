/- The row 'WideMuls', proved. -/
import Derived.Test.YtolfdpklblepfaaLaw
import Derived.Test.YtolfdpklblepfaaSxGlue
set_option linter.unusedSimpArgs false
set_option linter.unusedVariables false
namespace Go.Proofs.Ytolfdpklblepfaa
open Go Go.Sx Go.ChangeShapes Go.WideShapes Go.ChangeAt Go.RowKit

theorem Try.own : ownKnob Try.prog.godebug = none := by kernel_rfl
theorem Try.laidOut : laidOutB Try.prog = true := by kernel_rfl

theorem u64_wf {i : Int} (h : (Lit.int .u64 i).wf = true) : ∃ x : Nat, x < 18446744073709551616 ∧ i = x := by
  simp [Lit.wf, IntKind.has, IntKind.min, IntKind.max, IntKind.signed, IntKind.bits] at h
  exact ⟨i.toNat, by omega, by omega⟩

set_option maxRecDepth 100000 in
theorem wideMuls_lifted (os : Os) (started : os.Started) (H : Type) (enc : TypeId × Value → H) :
    ReturnsInHanded {} Try.checked os 3 .any (Rows.wideMulsSpec.pre6 enc Try.prog Try.f3 Rows.wideMulsRow.domain false) (Rows.wideMulsSpec.post enc Try.prog Try.f3 false true false false) := by
  refine returnsInHanded_of_change (C := Try.checked) Try.own started (by kernel_rfl) Try.func3
    (ChangeSpec.witness6 (enc := enc) (C := Try.checked) false ⟨#[], #[.int .u64 0, .int .u64 0], []⟩ 8 (by kernel_rfl) (by kernel_rfl) (by kernel_rfl) (by kernel_rfl)) ?_
  intro W base args ds gs before hval hW hcnd _
  have hs : ∀ t ∈ Try.f3.params.toList, simpleB Try.prog 4 t = true ∧ Try.prog.readableRec t = true ∧ t < Try.prog.types.size := by
    have h : (Try.f3.params.toList.all fun t => simpleB Try.prog 4 t && (Try.prog.readableRec t && decide (t < Try.prog.types.size))) = true := by kernel_rfl
    intro t ht
    have := List.all_eq_true.1 h t ht
    simpa using this
  refine law_post (E := E0) (m := 4) Try.laidOut (by kernel_rfl) Try.func3 trivial (fun b h => h.elim) rfl rfl (by kernel_rfl) ?_ hs hval hW ?_
  · intro ds h
    rcases ds with _ | ⟨d1, _ | ⟨d2, _ | ⟨d3, r⟩⟩⟩ <;> first | rfl | (simp [Try.params3] at h)
  · intro xs h
    rw [Try.params3] at h
    simp [okArgs, okT, Try.underlying22] at h
    obtain ⟨_, _, rfl, ⟨i, rfl, hi⟩, _, rfl, j, rfl, hj⟩ := h
    obtain ⟨x, hx, rfl⟩ := u64_wf hi
    obtain ⟨y, hy, rfl⟩ := u64_wf hj
    exact f3 x y hx hy

theorem wideMuls_holds : Rows.WideMulsSaid :=
  OpenClaim.holds_of_wide 3 Try.f3 rfl rfl rfl rfl rfl rfl rfl ⟨rfl, rfl, rfl, rfl, rfl⟩ rfl rfl rfl rfl rfl (by kernel_rfl) Try.func3 (by kernel_rfl)
    (of_decide_eq_true (by kernel_rfl)) (by unfold Func.isWrapper; first | (rw [if_pos (by decide +kernel)]; kernel_rfl) | (rw [if_neg (by decide +kernel)]; exact ⟨rfl, rfl⟩))
    (fun os started H enc _ => wideMuls_lifted os started H enc)

end Go.Proofs.Ytolfdpklblepfaa
