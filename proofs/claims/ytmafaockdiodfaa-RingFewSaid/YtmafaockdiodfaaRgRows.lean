/- The rows on rings, proved, each under its condition: whatever the input. -/
import Derived.Test.YtmafaockdiodfaaRgLaw
import Derived.Test.YtmafaockdiodfaaRowBase
import Derived.ProofKit
set_option linter.unusedSimpArgs false
set_option linter.unusedVariables false
namespace Go.Proofs.Ytmafaockdiodfaa
open Go Go.Sx Go.ChangeShapes Go.WideShapes Go.ChangeAt Go.RowKit

theorem ring_of {es : List (List T)} (h : ∀ c ∈ es, okSs [.it .i64, .it .i64] c) : ∃ l : List Slot, es = l.map slT ∧ ∀ s ∈ l, -9223372036854775808 ≤ s.1 ∧ s.1 < 9223372036854775808 ∧ -9223372036854775808 ≤ s.2 ∧ s.2 < 9223372036854775808 := by
  induction es with
  | nil => exact ⟨[], rfl, by simp⟩
  | cons e es ih =>
    obtain ⟨l, rfl, hl⟩ := ih (fun c hc => h c (by simp [hc]))
    have he := h e (by simp)
    simp [okSs, okS] at he
    obtain ⟨_, _, rfl, ⟨i, rfl, hi⟩, j, rfl, hj⟩ := he
    have := i64_wf hi
    have := i64_wf hj
    refine ⟨(i, j) :: l, rfl, ?_⟩
    intro s hs
    rcases List.mem_cons.1 hs with rfl | hs
    · exact ⟨by omega, by omega, by omega, by omega⟩
    · exact hl s hs

theorem ring_arg {cs : List T} (h : okSs [.it .i64, .sl 2 (.st [.it .i64, .it .i64])] cs) : ∃ w l, AV.ag (cs.map .t) = ringV w l ∧ (-9223372036854775808 ≤ w ∧ w < 9223372036854775808) ∧ ∀ s ∈ l, -9223372036854775808 ≤ s.1 ∧ s.1 < 9223372036854775808 ∧ -9223372036854775808 ≤ s.2 ∧ s.2 < 9223372036854775808 := by
  simp only [okSs, okS] at h
  obtain ⟨_, _, rfl, ⟨i, rfl, hi⟩, _, _, rfl, ⟨es, rfl, _, he⟩, rfl⟩ := h
  obtain ⟨l, rfl, hl⟩ := ring_of (fun c hc => by simpa only [okSs, okS] using he c hc)
  exact ⟨i, l, rfl, i64_wf hi, hl⟩

theorem ok_RingSets : ∀ xs, okArgsS [(true, .st [.it .i64, .sl 2 (.st [.it .i64, .it .i64])]), (false, .it .i64), (false, .it .i64)] xs → Meets Try.prog E0 n_law13_RingSets xs [] (Bo true) [] := by
  intro xs h
  simp only [okArgsS, okS, if_true, if_false, Bool.false_eq_true] at h
  obtain ⟨cs, _, rfl, hr, _, _, rfl, ⟨t, rfl, ht⟩, _, _, rfl, ⟨v, rfl, hv⟩, rfl⟩ := h
  obtain ⟨w, l, e, hw, hl⟩ := ring_arg hr
  rw [e]
  exact f_law13_RingSets w t v l

set_option maxRecDepth 100000 in
theorem ringSets_lifted (os : Os) (started : os.Started) (H : Type) (enc : TypeId × Value → H) :
    ReturnsInHanded {} Try.checked os 3 .any (Rows.ringSetsSpec.pre6 enc Try.prog Try.f3 Rows.ringSetsRow.domain false) (Rows.ringSetsSpec.post enc Try.prog Try.f3 false true false false) := by
  refine returnsInHanded_of_change_sized (C := Try.checked) Try.own started (by kernel_rfl) Try.func3
    (ChangeSpec.witness6 (enc := enc) (C := Try.checked) false ⟨#[], #[.agg #[.int .i64 0, .slice none 0 0], .int .i64 0, .int .i64 0], []⟩ 8 (by kernel_rfl) (by kernel_rfl) (by kernel_rfl) (by kernel_rfl)) ?_
  intro W base args ds gs before hval hW hcnd hwt _
  refine law_post2 (E := E0) (m := 8) (ss := [(true, .st [.it .i64, .sl 2 (.st [.it .i64, .it .i64])]), (false, .it .i64), (false, .it .i64)]) Try.laidOut (by kernel_rfl) Try.func3 trivial (fun b h => h.elim) rfl rfl (by kernel_rfl) ?_ (by kernel_rfl) (by kernel_rfl) hval hW hwt ok_RingSets
  intro ds h
  rcases ds with _ | ⟨d1, _ | ⟨d2, _ | ⟨d3, _ | ⟨d4, r⟩⟩⟩⟩ <;> first | rfl | (simp [Try.params3] at h)

theorem ringSets_holds : Rows.RingSetsSaid :=
  OpenClaim.holds_of_wide 3 Try.f3 rfl rfl rfl rfl rfl rfl rfl ⟨rfl, rfl, rfl, rfl, rfl⟩ rfl rfl rfl rfl rfl (by kernel_rfl) Try.func3 (by kernel_rfl)
    (of_decide_eq_true (by kernel_rfl)) (by unfold Func.isWrapper; first | (rw [if_pos (by decide +kernel)]; kernel_rfl) | (rw [if_neg (by decide +kernel)]; exact ⟨rfl, rfl⟩))
    (fun os started H enc _ => ringSets_lifted os started H enc)

theorem ok_RingSpans : ∀ xs, okArgsS [(true, .st [.it .i64, .sl 2 (.st [.it .i64, .it .i64])]), (false, .it .i64), (false, .it .i64)] xs → Meets Try.prog E0 n_law13_RingSpans xs [] (Bo true) [] := by
  intro xs h
  simp only [okArgsS, okS, if_true, if_false, Bool.false_eq_true] at h
  obtain ⟨cs, _, rfl, hr, _, _, rfl, ⟨t, rfl, ht⟩, _, _, rfl, ⟨v, rfl, hv⟩, rfl⟩ := h
  obtain ⟨w, l, e, hw, hl⟩ := ring_arg hr
  rw [e]
  exact f_law13_RingSpans w t v l

set_option maxRecDepth 100000 in
theorem ringSpans_lifted (os : Os) (started : os.Started) (H : Type) (enc : TypeId × Value → H) :
    ReturnsInHanded {} Try.checked os 4 .any (Rows.ringSpansSpec.pre6 enc Try.prog Try.f4 Rows.ringSpansRow.domain false) (Rows.ringSpansSpec.post enc Try.prog Try.f4 false true false false) := by
  refine returnsInHanded_of_change_sized (C := Try.checked) Try.own started (by kernel_rfl) Try.func4
    (ChangeSpec.witness6 (enc := enc) (C := Try.checked) false ⟨#[], #[.agg #[.int .i64 0, .slice none 0 0], .int .i64 0, .int .i64 0], []⟩ 8 (by kernel_rfl) (by kernel_rfl) (by kernel_rfl) (by kernel_rfl)) ?_
  intro W base args ds gs before hval hW hcnd hwt _
  refine law_post2 (E := E0) (m := 8) (ss := [(true, .st [.it .i64, .sl 2 (.st [.it .i64, .it .i64])]), (false, .it .i64), (false, .it .i64)]) Try.laidOut (by kernel_rfl) Try.func4 trivial (fun b h => h.elim) rfl rfl (by kernel_rfl) ?_ (by kernel_rfl) (by kernel_rfl) hval hW hwt ok_RingSpans
  intro ds h
  rcases ds with _ | ⟨d1, _ | ⟨d2, _ | ⟨d3, _ | ⟨d4, r⟩⟩⟩⟩ <;> first | rfl | (simp [Try.params4] at h)

theorem ringSpans_holds : Rows.RingSpansSaid :=
  OpenClaim.holds_of_wide 4 Try.f4 rfl rfl rfl rfl rfl rfl rfl ⟨rfl, rfl, rfl, rfl, rfl⟩ rfl rfl rfl rfl rfl (by kernel_rfl) Try.func4 (by kernel_rfl)
    (of_decide_eq_true (by kernel_rfl)) (by unfold Func.isWrapper; first | (rw [if_pos (by decide +kernel)]; kernel_rfl) | (rw [if_neg (by decide +kernel)]; exact ⟨rfl, rfl⟩))
    (fun os started H enc _ => ringSpans_lifted os started H enc)

theorem ok_RingParts : ∀ xs, okArgsS [(true, .st [.it .i64, .sl 2 (.st [.it .i64, .it .i64])]), (true, .st [.it .u16, .it .u16, .it .u16])] xs → Meets Try.prog E0 n_law13_RingParts xs [] (Bo true) [] := by
  intro xs h
  simp only [okArgsS, okS, okSs, if_true] at h
  obtain ⟨cs, _, rfl, hr, _, _, rfl, ⟨_, _, rfl, ⟨x, rfl, kx⟩, _, _, rfl, ⟨y, rfl, ky⟩, _, _, rfl, ⟨z, rfl, kz⟩, rfl⟩, rfl⟩ := h
  obtain ⟨w, l, e, hw, hl⟩ := ring_arg (by simpa only [okSs, okS] using hr)
  obtain ⟨x, hx, rfl⟩ := u16_wf kx
  obtain ⟨y, hy, rfl⟩ := u16_wf ky
  obtain ⟨z, hz, rfl⟩ := u16_wf kz
  rw [e]
  exact f_law13_RingParts w x y z l hx hy hz

set_option maxRecDepth 100000 in
theorem ringParts_lifted (os : Os) (started : os.Started) (H : Type) (enc : TypeId × Value → H) :
    ReturnsInHanded {} Try.checked os 5 .any (Rows.ringPartsSpec.pre6 enc Try.prog Try.f5 Rows.ringPartsRow.domain false) (Rows.ringPartsSpec.post enc Try.prog Try.f5 false true false false) := by
  refine returnsInHanded_of_change_sized (C := Try.checked) Try.own started (by kernel_rfl) Try.func5
    (ChangeSpec.witness6 (enc := enc) (C := Try.checked) false ⟨#[], #[.agg #[.int .i64 0, .slice none 0 0], .agg #[.int .u16 0, .int .u16 0, .int .u16 0]], []⟩ 8 (by kernel_rfl) (by kernel_rfl) (by kernel_rfl) (by kernel_rfl)) ?_
  intro W base args ds gs before hval hW hcnd hwt _
  refine law_post2 (E := E0) (m := 8) (ss := [(true, .st [.it .i64, .sl 2 (.st [.it .i64, .it .i64])]), (true, .st [.it .u16, .it .u16, .it .u16])]) Try.laidOut (by kernel_rfl) Try.func5 trivial (fun b h => h.elim) rfl rfl (by kernel_rfl) ?_ (by kernel_rfl) (by kernel_rfl) hval hW hwt ok_RingParts
  intro ds h
  rcases ds with _ | ⟨d1, _ | ⟨d2, _ | ⟨d3, r⟩⟩⟩ <;> first | rfl | (simp [Try.params5] at h)

theorem ringParts_holds : Rows.RingPartsSaid :=
  OpenClaim.holds_of_wide 5 Try.f5 rfl rfl rfl rfl rfl rfl rfl ⟨rfl, rfl, rfl, rfl, rfl⟩ rfl rfl rfl rfl rfl (by kernel_rfl) Try.func5 (by kernel_rfl)
    (of_decide_eq_true (by kernel_rfl)) (by unfold Func.isWrapper; first | (rw [if_pos (by decide +kernel)]; kernel_rfl) | (rw [if_neg (by decide +kernel)]; exact ⟨rfl, rfl⟩))
    (fun os started H enc _ => ringParts_lifted os started H enc)

end Go.Proofs.Ytmafaockdiodfaa
