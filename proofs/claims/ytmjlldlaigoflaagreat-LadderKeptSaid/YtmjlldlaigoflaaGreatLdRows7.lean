/- The row on ladders that are built again, proved: whatever the input. -/
import Derived.Test.YtmjlldlaigoflaaGreatLdK
import Derived.Test.YtmjlldlaigoflaaGreatRowBase
import Derived.Test.YtmjlldlaigoflaaGreatLdRings
import Derived.ProofKit
set_option linter.unusedSimpArgs false
set_option linter.unusedVariables false
namespace Go.Proofs.YtmjlldlaigoflaaGreat
open Go Go.Sx Go.ChangeShapes Go.WideShapes Go.ChangeAt Go.RowKit

theorem ok_LadderKept : ∀ xs, okArgsS [(true, .st [.it .i64, .it .i64, .sl 2 (.st [.it .i64, .sl 2 (.st [.it .i64, .it .i64])])])] xs → Meets Tryz.prog E0 n_law14_LadderKept xs [] (Bo true) [] := by
  intro xs h
  simp only [okArgsS, okS, okSs, if_true] at h
  obtain ⟨_, _, rfl, ⟨_, _, rfl, ⟨m, rfl, _⟩, _, _, rfl, ⟨f, rfl, _⟩, _, _, rfl, ⟨es, rfl, hb, he⟩, rfl⟩, rfl⟩ := h
  obtain ⟨l, rfl, hl, hl2⟩ := rings_of (fun c hc => by simpa only [okSs, okS] using he c hc)
  exact f_law14_LadderKept m f l (by simpa using hb) hl2 hl

set_option maxRecDepth 100000 in
theorem ladderKept_lifted (os : Os) (started : os.Started) (H : Type) (enc : TypeId × Value → H) :
    ReturnsInHanded {} Tryz.checked os 3 .any (Rows.ladderKeptSpec.pre6 enc Tryz.prog Tryz.f3 Rows.ladderKeptRow.domain false) (Rows.ladderKeptSpec.post enc Tryz.prog Tryz.f3 false true false false) := by
  refine returnsInHanded_of_change_sized (C := Tryz.checked) Tryz.own started (by kernel_rfl) Tryz.func3
    (ChangeSpec.witness6 (enc := enc) (C := Tryz.checked) false ⟨#[], #[.agg #[.int .i64 0, .int .i64 0, .slice none 0 0]], []⟩ 8 (by kernel_rfl) (by kernel_rfl) (by kernel_rfl) (by kernel_rfl)) ?_
  intro W base args ds gs before hval hW hcnd hwt _
  refine law_post2 (E := E0) (m := 8) (ss := [(true, .st [.it .i64, .it .i64, .sl 2 (.st [.it .i64, .sl 2 (.st [.it .i64, .it .i64])])])]) Tryz.laidOut (by kernel_rfl) Tryz.func3 trivial (fun b h => h.elim) rfl rfl (by kernel_rfl) ?_ (by kernel_rfl) (by kernel_rfl) hval hW hwt ok_LadderKept
  intro ds h
  rcases ds with _ | ⟨d1, _ | ⟨d2, r⟩⟩ <;> first | rfl | (simp [Tryz.params3] at h)

theorem ladderKept_holds : Rows.LadderKeptSaid :=
  OpenClaim.holds_of_wide 3 Tryz.f3 rfl rfl rfl rfl rfl rfl rfl ⟨rfl, rfl, rfl, rfl, rfl⟩ rfl rfl rfl rfl rfl (by kernel_rfl) Tryz.func3 (by kernel_rfl)
    (of_decide_eq_true (by kernel_rfl)) (by unfold Func.isWrapper; first | (rw [if_pos (by decide +kernel)]; kernel_rfl) | (rw [if_neg (by decide +kernel)]; exact ⟨rfl, rfl⟩))
    (fun os started H enc _ => ladderKept_lifted os started H enc)

end Go.Proofs.YtmjlldlaigoflaaGreat
