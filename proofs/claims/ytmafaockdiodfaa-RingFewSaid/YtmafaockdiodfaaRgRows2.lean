/- The rows on what rings are, and on what is set, proved: whatever the input. -/
import Derived.Test.YtmafaockdiodfaaRgLast
import Derived.Test.YtmafaockdiodfaaRowBase
import Derived.Test.YtmafaockdiodfaaRgRows
import Derived.ProofKit
set_option linter.unusedSimpArgs false
set_option linter.unusedVariables false
namespace Go.Proofs.Ytmafaockdiodfaa
open Go Go.Sx Go.ChangeShapes Go.WideShapes Go.ChangeAt Go.RowKit

theorem ok_RingAsks : ∀ xs, okArgsS [(true, .st [.it .i64, .sl 2 (.st [.it .i64, .it .i64])]), (false, .it .i64), (false, .it .i64)] xs → Meets Try.prog E0 n_law13_RingAsks xs [] (Bo true) [] := by
  intro xs h
  simp only [okArgsS, okS, if_true, if_false, Bool.false_eq_true] at h
  obtain ⟨cs, _, rfl, hr, _, _, rfl, ⟨t, rfl, ht⟩, _, _, rfl, ⟨v, rfl, hv⟩, rfl⟩ := h
  obtain ⟨w, l, e, hw, hl⟩ := ring_arg hr
  rw [e]
  exact f_law13_RingAsks w l t v

set_option maxRecDepth 100000 in
theorem ringAsks_lifted (os : Os) (started : os.Started) (H : Type) (enc : TypeId × Value → H) :
    ReturnsInHanded {} Try.checked os 6 .any (Rows.ringAsksSpec.pre6 enc Try.prog Try.f6 Rows.ringAsksRow.domain false) (Rows.ringAsksSpec.post enc Try.prog Try.f6 false true false false) := by
  refine returnsInHanded_of_change_sized (C := Try.checked) Try.own started (by kernel_rfl) Try.func6
    (ChangeSpec.witness6 (enc := enc) (C := Try.checked) false ⟨#[], #[.agg #[.int .i64 0, .slice none 0 0], .int .i64 0, .int .i64 0], []⟩ 8 (by kernel_rfl) (by kernel_rfl) (by kernel_rfl) (by kernel_rfl)) ?_
  intro W base args ds gs before hval hW hcnd hwt _
  refine law_post2 (E := E0) (m := 8) (ss := [(true, .st [.it .i64, .sl 2 (.st [.it .i64, .it .i64])]), (false, .it .i64), (false, .it .i64)]) Try.laidOut (by kernel_rfl) Try.func6 trivial (fun b h => h.elim) rfl rfl (by kernel_rfl) ?_ (by kernel_rfl) (by kernel_rfl) hval hW hwt ok_RingAsks
  intro ds h
  rcases ds with _ | ⟨d1, _ | ⟨d2, _ | ⟨d3, _ | ⟨d4, r⟩⟩⟩⟩ <;> first | rfl | (simp [Try.params6] at h)

theorem ringAsks_holds : Rows.RingAsksSaid :=
  OpenClaim.holds_of_wide 6 Try.f6 rfl rfl rfl rfl rfl rfl rfl ⟨rfl, rfl, rfl, rfl, rfl⟩ rfl rfl rfl rfl rfl (by kernel_rfl) Try.func6 (by kernel_rfl)
    (of_decide_eq_true (by kernel_rfl)) (by unfold Func.isWrapper; first | (rw [if_pos (by decide +kernel)]; kernel_rfl) | (rw [if_neg (by decide +kernel)]; exact ⟨rfl, rfl⟩))
    (fun os started H enc _ => ringAsks_lifted os started H enc)

theorem ok_RingFew : ∀ xs, okArgsS [(false, .it .u8), (false, .it .u8), (false, .it .u16)] xs → Meets Try.prog E0 n_law13_RingFew xs [] (Bo true) [] := by
  intro xs h
  simp only [okArgsS, okS, if_false, Bool.false_eq_true] at h
  obtain ⟨_, _, rfl, ⟨a, rfl, ha⟩, _, _, rfl, ⟨b, rfl, hb⟩, _, _, rfl, ⟨c, rfl, hc⟩, rfl⟩ := h
  obtain ⟨a, ha2, rfl⟩ := u8_wf ha
  obtain ⟨b, hb2, rfl⟩ := u8_wf hb
  obtain ⟨c, hc2, rfl⟩ := u16_wf hc
  exact f_law13_RingFew a b c ha2 hb2 hc2

set_option maxRecDepth 100000 in
theorem ringFew_lifted (os : Os) (started : os.Started) (H : Type) (enc : TypeId × Value → H) :
    ReturnsInHanded {} Try.checked os 8 .any (Rows.ringFewSpec.pre6 enc Try.prog Try.f8 Rows.ringFewRow.domain false) (Rows.ringFewSpec.post enc Try.prog Try.f8 false true false false) := by
  refine returnsInHanded_of_change_sized (C := Try.checked) Try.own started (by kernel_rfl) Try.func8
    (ChangeSpec.witness6 (enc := enc) (C := Try.checked) false ⟨#[], #[.int .u8 0, .int .u8 0, .int .u16 0], []⟩ 8 (by kernel_rfl) (by kernel_rfl) (by kernel_rfl) (by kernel_rfl)) ?_
  intro W base args ds gs before hval hW hcnd hwt _
  refine law_post2 (E := E0) (m := 8) (ss := [(false, .it .u8), (false, .it .u8), (false, .it .u16)]) Try.laidOut (by kernel_rfl) Try.func8 trivial (fun b h => h.elim) rfl rfl (by kernel_rfl) ?_ (by kernel_rfl) (by kernel_rfl) hval hW hwt ok_RingFew
  intro ds h
  rcases ds with _ | ⟨d1, _ | ⟨d2, _ | ⟨d3, _ | ⟨d4, r⟩⟩⟩⟩ <;> first | rfl | (simp [Try.params8] at h)

theorem ringFew_holds : Rows.RingFewSaid :=
  OpenClaim.holds_of_wide 8 Try.f8 rfl rfl rfl rfl rfl rfl rfl ⟨rfl, rfl, rfl, rfl, rfl⟩ rfl rfl rfl rfl rfl (by kernel_rfl) Try.func8 (by kernel_rfl)
    (of_decide_eq_true (by kernel_rfl)) (by unfold Func.isWrapper; first | (rw [if_pos (by decide +kernel)]; kernel_rfl) | (rw [if_neg (by decide +kernel)]; exact ⟨rfl, rfl⟩))
    (fun os started H enc _ => ringFew_lifted os started H enc)

theorem acts_of {es : List (List T)} (h : ∀ c ∈ es, okSs [.it .u16, .it .i64] c) : ∃ l : List Act, es = l.map actT ∧ ∀ a ∈ l, a.1 < 65536 := by
  induction es with
  | nil => exact ⟨[], rfl, by simp⟩
  | cons e es ih =>
    obtain ⟨l, rfl, hl⟩ := ih (fun c hc => h c (by simp [hc]))
    have he := h e (by simp)
    simp only [okSs, okS] at he
    obtain ⟨_, _, rfl, ⟨a, rfl, ha⟩, _, _, rfl, ⟨b, rfl, hb⟩, rfl⟩ := he
    obtain ⟨a, ha2, rfl⟩ := u16_wf ha
    refine ⟨(a, b) :: l, rfl, ?_⟩
    intro x hx
    rcases List.mem_cons.1 hx with rfl | hx
    · exact ha2
    · exact hl x hx

theorem ok_RingLast : ∀ xs, okArgsS [(false, .it .u8), (false, .it .u8), (false, .sl 2 (.st [.it .u16, .it .i64]))] xs → Meets Try.prog E0 n_law13_RingLast xs [] (Bo true) [] := by
  intro xs h
  simp only [okArgsS, okS, okSs, if_false, Bool.false_eq_true] at h
  obtain ⟨_, _, rfl, ⟨a, rfl, ha⟩, _, _, rfl, ⟨b, rfl, hb⟩, _, _, rfl, ⟨es, rfl, _, he⟩, rfl⟩ := h
  obtain ⟨a, ha2, rfl⟩ := u8_wf ha
  obtain ⟨b, hb2, rfl⟩ := u8_wf hb
  obtain ⟨l, rfl, hl⟩ := acts_of (fun c hc => by simpa only [okSs, okS] using he c hc)
  exact f_law13_RingLast a b l ha2 hb2 hl

set_option maxRecDepth 100000 in
theorem ringLast_lifted (os : Os) (started : os.Started) (H : Type) (enc : TypeId × Value → H) :
    ReturnsInHanded {} Try.checked os 7 .any (Rows.ringLastSpec.pre6 enc Try.prog Try.f7 Rows.ringLastRow.domain false) (Rows.ringLastSpec.post enc Try.prog Try.f7 false true false false) := by
  refine returnsInHanded_of_change_sized (C := Try.checked) Try.own started (by kernel_rfl) Try.func7
    (ChangeSpec.witness6 (enc := enc) (C := Try.checked) false ⟨#[], #[.int .u8 0, .int .u8 0, .slice none 0 0], []⟩ 8 (by kernel_rfl) (by kernel_rfl) (by kernel_rfl) (by kernel_rfl)) ?_
  intro W base args ds gs before hval hW hcnd hwt _
  refine law_post2 (E := E0) (m := 8) (ss := [(false, .it .u8), (false, .it .u8), (false, .sl 2 (.st [.it .u16, .it .i64]))]) Try.laidOut (by kernel_rfl) Try.func7 trivial (fun b h => h.elim) rfl rfl (by kernel_rfl) ?_ (by kernel_rfl) (by kernel_rfl) hval hW hwt ok_RingLast
  intro ds h
  rcases ds with _ | ⟨d1, _ | ⟨d2, _ | ⟨d3, _ | ⟨d4, r⟩⟩⟩⟩ <;> first | rfl | (simp [Try.params7] at h)

theorem ringLast_holds : Rows.RingLastSaid :=
  OpenClaim.holds_of_wide 7 Try.f7 rfl rfl rfl rfl rfl rfl rfl ⟨rfl, rfl, rfl, rfl, rfl⟩ rfl rfl rfl rfl rfl (by kernel_rfl) Try.func7 (by kernel_rfl)
    (of_decide_eq_true (by kernel_rfl)) (by unfold Func.isWrapper; first | (rw [if_pos (by decide +kernel)]; kernel_rfl) | (rw [if_neg (by decide +kernel)]; exact ⟨rfl, rfl⟩))
    (fun os started H enc _ => ringLast_lifted os started H enc)

end Go.Proofs.Ytmafaockdiodfaa
