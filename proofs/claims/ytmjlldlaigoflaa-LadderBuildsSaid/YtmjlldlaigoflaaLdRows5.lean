/- The row on ladders that are built of slots, proved: whatever the input. -/
import Derived.Test.YtmjlldlaigoflaaLdBuild3
import Derived.Test.YtmjlldlaigoflaaRowBase
import Derived.Test.YtmjlldlaigoflaaLdRows
import Derived.ProofKit
set_option linter.unusedSimpArgs false
set_option linter.unusedVariables false
namespace Go.Proofs.Ytmjlldlaigoflaa
open Go Go.Sx Go.ChangeShapes Go.WideShapes Go.ChangeAt Go.RowKit

theorem recs_of {es : List (List T)} (h : ∀ c ∈ es, okSs [.it .i64, .str, .it .i64, .it .i64, .sl 2 (.st [.it .i64, .it .i64]), .it .i64, .it .i64, .it .i64, .it .i64] c) : ∃ l : List Rec, es = l.map recT ∧ InV l := by
  induction es with
  | nil => exact ⟨[], rfl, by intro x hx; simp at hx⟩
  | cons e es ih =>
    obtain ⟨l, rfl, hl⟩ := ih (fun c hc => h c (by simp [hc]))
    have he := h e (by simp)
    simp only [okSs, okS] at he
    obtain ⟨_, _, rfl, ⟨a, rfl, _⟩, _, _, rfl, ⟨s, rfl, _⟩, _, _, rfl, ⟨b, rfl, _⟩, _, _, rfl, ⟨c, rfl, _⟩, _, _, rfl, ⟨ps, rfl, _, hp⟩, _, _, rfl, ⟨d, rfl, hd⟩, _, _, rfl, ⟨e, rfl, _⟩, _, _, rfl, ⟨g, rfl, _⟩, _, _, rfl, ⟨v, rfl, hv⟩, rfl⟩ := he
    obtain ⟨rs, rfl, _⟩ := pairs_of (fun c hc => by simpa only [okSs, okS] using hp c hc)
    refine ⟨(a, s, b, c, rs, d, e, g, v) :: l, rfl, ?_⟩
    intro x hx
    rcases List.mem_cons.1 hx with rfl | hx
    · exact ⟨i64_wf hv, i64_wf hd⟩
    · exact hl x hx

theorem ok_LadderBuilds : ∀ xs, okArgsS [(true, .st [.sl 2 (.st [.it .i64, .it .i64]), .it .i64, .it .i64]), (false, .sl 9 (.st [.it .i64, .str, .it .i64, .it .i64, .sl 2 (.st [.it .i64, .it .i64]), .it .i64, .it .i64, .it .i64, .it .i64]))] xs → Meets Try.prog E0 n_law14_LadderBuilds xs [] (Bo true) [] := by
  intro xs h
  simp only [okArgsS, okS, okSs, if_true, if_false, Bool.false_eq_true] at h
  obtain ⟨_, _, rfl, ⟨_, _, rfl, ⟨ps, rfl, _, hp⟩, _, _, rfl, ⟨m, rfl, _⟩, _, _, rfl, ⟨f, rfl, _⟩, rfl⟩, _, _, rfl, ⟨es, rfl, _, he⟩, rfl⟩ := h
  obtain ⟨rs, rfl, _⟩ := pairs_of (fun c hc => by simpa only [okSs, okS] using hp c hc)
  obtain ⟨l, rfl, hl⟩ := recs_of (fun c hc => by simpa only [okSs, okS] using he c hc)
  exact f_law14_LadderBuilds rs m f l hl

set_option maxRecDepth 100000 in
theorem ladderBuilds_lifted (os : Os) (started : os.Started) (H : Type) (enc : TypeId × Value → H) :
    ReturnsInHanded {} Try.checked os 6 .any (Rows.ladderBuildsSpec.pre6 enc Try.prog Try.f6 Rows.ladderBuildsRow.domain false) (Rows.ladderBuildsSpec.post enc Try.prog Try.f6 false true false false) := by
  refine returnsInHanded_of_change_sized (C := Try.checked) Try.own started (by kernel_rfl) Try.func6
    (ChangeSpec.witness6 (enc := enc) (C := Try.checked) false ⟨#[], #[.agg #[.slice none 0 0, .int .i64 0, .int .i64 0], .slice none 0 0], []⟩ 8 (by kernel_rfl) (by kernel_rfl) (by kernel_rfl) (by kernel_rfl)) ?_
  intro W base args ds gs before hval hW hcnd hwt _
  refine law_post2 (E := E0) (m := 8) (ss := [(true, .st [.sl 2 (.st [.it .i64, .it .i64]), .it .i64, .it .i64]), (false, .sl 9 (.st [.it .i64, .str, .it .i64, .it .i64, .sl 2 (.st [.it .i64, .it .i64]), .it .i64, .it .i64, .it .i64, .it .i64]))]) Try.laidOut (by kernel_rfl) Try.func6 trivial (fun b h => h.elim) rfl rfl (by kernel_rfl) ?_ (by kernel_rfl) (by kernel_rfl) hval hW hwt ok_LadderBuilds
  intro ds h
  rcases ds with _ | ⟨d1, _ | ⟨d2, _ | ⟨d3, r⟩⟩⟩ <;> first | rfl | (simp [Try.params6] at h)

theorem ladderBuilds_holds : Rows.LadderBuildsSaid :=
  OpenClaim.holds_of_wide 6 Try.f6 rfl rfl rfl rfl rfl rfl rfl ⟨rfl, rfl, rfl, rfl, rfl⟩ rfl rfl rfl rfl rfl (by kernel_rfl) Try.func6 (by kernel_rfl)
    (of_decide_eq_true (by kernel_rfl)) (by unfold Func.isWrapper; first | (rw [if_pos (by decide +kernel)]; kernel_rfl) | (rw [if_neg (by decide +kernel)]; exact ⟨rfl, rfl⟩))
    (fun os started H enc _ => ladderBuilds_lifted os started H enc)

end Go.Proofs.Ytmjlldlaigoflaa
