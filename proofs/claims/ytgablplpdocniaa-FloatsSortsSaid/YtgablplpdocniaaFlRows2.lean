/- The rows on floats there and back, and sorted, proved: whatever the input. -/
import Derived.Test.YtgablplpdocniaaFlLaw3
import Derived.Test.YtgablplpdocniaaRowBase
import Derived.ProofKit
set_option linter.unusedSimpArgs false
set_option linter.unusedVariables false
namespace Go.Proofs.Ytgablplpdocniaa
open Go Go.Sx Go.ChangeShapes Go.WideShapes Go.ChangeAt Go.RowKit

theorem f64_wf2 {i : Nat} (h : (Lit.float .f64 i).wf = true) : i < 18446744073709551616 := by
  have h1 : i < 2 ^ 64 := by simpa only [Lit.wf, decide_eq_true_eq] using h
  exact h1

theorem ok_FloatsBack : ∀ xs, okArgsS [(true, .st [.bo, .it .i64]), (true, .st [.bo, .it .i64])] xs → Meets Try.prog E0 n_law04_FloatsBack xs [] (Bo true) [] := by
  intro xs h
  simp only [okArgsS, okS, okSs, if_true, if_false, Bool.false_eq_true] at h
  obtain ⟨_, _, rfl, ⟨_, _, rfl, ⟨x, rfl⟩, _, _, rfl, ⟨v, rfl, hv⟩, rfl⟩, _, _, rfl, ⟨_, _, rfl, ⟨y, rfl⟩, _, _, rfl, ⟨u, rfl, hu⟩, rfl⟩, rfl⟩ := h
  obtain ⟨v1, v2⟩ := i64_wf hv
  obtain ⟨u1, u2⟩ := i64_wf hu
  exact f_law04_FloatsBack x y v u v1 v2 u1 u2

set_option maxRecDepth 100000 in
theorem floatsBack_lifted (os : Os) (started : os.Started) (H : Type) (enc : TypeId × Value → H) :
    ReturnsInHanded {} Try.checked os 6 .any (Rows.floatsBackSpec.pre6 enc Try.prog Try.f6 Rows.floatsBackRow.domain false) (Rows.floatsBackSpec.post enc Try.prog Try.f6 false true false false) := by
  refine returnsInHanded_of_change_sized (C := Try.checked) Try.own started (by kernel_rfl) Try.func6
    (ChangeSpec.witness6 (enc := enc) (C := Try.checked) false ⟨#[], #[.agg #[.bool false, .int .i64 0], .agg #[.bool false, .int .i64 0]], []⟩ 8 (by kernel_rfl) (by kernel_rfl) (by kernel_rfl) (by kernel_rfl)) ?_
  intro W base args ds gs before hval hW hcnd hwt _
  refine law_post2 (E := E0) (m := 8) (ss := [(true, .st [.bo, .it .i64]), (true, .st [.bo, .it .i64])]) Try.laidOut (by kernel_rfl) Try.func6 trivial (fun b h => h.elim) rfl rfl (by kernel_rfl) ?_ (by kernel_rfl) (by kernel_rfl) hval hW hwt ok_FloatsBack
  intro ds h
  rcases ds with _ | ⟨d1, _ | ⟨d2, _ | ⟨d3, r⟩⟩⟩ <;> first | rfl | (simp [Try.params6] at h)

theorem floatsBack_holds : Rows.FloatsBackSaid :=
  OpenClaim.holds_of_wide 6 Try.f6 rfl rfl rfl rfl rfl rfl rfl ⟨rfl, rfl, rfl, rfl, rfl⟩ rfl rfl rfl rfl rfl (by kernel_rfl) Try.func6 (by kernel_rfl)
    (of_decide_eq_true (by kernel_rfl)) (by unfold Func.isWrapper; first | (rw [if_pos (by decide +kernel)]; kernel_rfl) | (rw [if_neg (by decide +kernel)]; exact ⟨rfl, rfl⟩))
    (fun os started H enc _ => floatsBack_lifted os started H enc)

theorem ok_FloatsSorts : ∀ xs, okArgsS [(false, .sl 1 (.fl .f64))] xs → Meets Try.prog E0 n_law04_FloatsSorts xs [] (Bo true) [] := by
  intro xs h
  simp only [okArgsS, okS, if_false, Bool.false_eq_true] at h
  obtain ⟨_, _, rfl, ⟨es, rfl, hl, he⟩, rfl⟩ := h
  obtain ⟨l, rfl, hD⟩ : ∃ l : List Nat, es = l.map row_float64 ∧ ∀ x ∈ l, x < 18446744073709551616 := by
    clear hl
    induction es with
    | nil => exact ⟨[], rfl, by simp⟩
    | cons e es ih =>
      obtain ⟨l, rfl, h2⟩ := ih fun c hc => he c (by simp [hc])
      obtain ⟨a, rfl, ha⟩ := he e (by simp)
      exact ⟨a :: l, rfl, fun x hx => by rcases List.mem_cons.1 hx with rfl | hx; exact f64_wf2 ha; exact h2 x hx⟩
  exact f_law04_FloatsSorts l hD

set_option maxRecDepth 100000 in
theorem floatsSorts_lifted (os : Os) (started : os.Started) (H : Type) (enc : TypeId × Value → H) :
    ReturnsInHanded {} Try.checked os 7 .any (Rows.floatsSortsSpec.pre6 enc Try.prog Try.f7 Rows.floatsSortsRow.domain false) (Rows.floatsSortsSpec.post enc Try.prog Try.f7 false true false false) := by
  refine returnsInHanded_of_change_sized (C := Try.checked) Try.own started (by kernel_rfl) Try.func7
    (ChangeSpec.witness6 (enc := enc) (C := Try.checked) false ⟨#[], #[.slice none 0 0], []⟩ 8 (by kernel_rfl) (by kernel_rfl) (by kernel_rfl) (by kernel_rfl)) ?_
  intro W base args ds gs before hval hW hcnd hwt _
  refine law_post2 (E := E0) (m := 8) (ss := [(false, .sl 1 (.fl .f64))]) Try.laidOut (by kernel_rfl) Try.func7 trivial (fun b h => h.elim) rfl rfl (by kernel_rfl) ?_ (by kernel_rfl) (by kernel_rfl) hval hW hwt ok_FloatsSorts
  intro ds h
  rcases ds with _ | ⟨d1, _ | ⟨d2, r⟩⟩ <;> first | rfl | (simp [Try.params7] at h)

theorem floatsSorts_holds : Rows.FloatsSortsSaid :=
  OpenClaim.holds_of_wide 7 Try.f7 rfl rfl rfl rfl rfl rfl rfl ⟨rfl, rfl, rfl, rfl, rfl⟩ rfl rfl rfl rfl rfl (by kernel_rfl) Try.func7 (by kernel_rfl)
    (of_decide_eq_true (by kernel_rfl)) (by unfold Func.isWrapper; first | (rw [if_pos (by decide +kernel)]; kernel_rfl) | (rw [if_neg (by decide +kernel)]; exact ⟨rfl, rfl⟩))
    (fun os started H enc _ => floatsSorts_lifted os started H enc)

end Go.Proofs.Ytgablplpdocniaa
