/- The rows on floats, proved: whatever the input. -/
import Derived.Test.YtgablplpdocniaaFlLaw
import Derived.Test.YtgablplpdocniaaRowBase
import Derived.ProofKit
set_option linter.unusedSimpArgs false
set_option linter.unusedVariables false
namespace Go.Proofs.Ytgablplpdocniaa
open Go Go.Sx Go.ChangeShapes Go.WideShapes Go.ChangeAt Go.RowKit

theorem f64_wf {i : Nat} (h : (Lit.float .f64 i).wf = true) : i < 18446744073709551616 := by
  have h1 : i < 2 ^ 64 := by simpa only [Lit.wf, decide_eq_true_eq] using h
  exact h1

theorem ok_FloatsFrom : ∀ xs, okArgsS [(false, .fl .f64)] xs → Meets Try.prog E0 n_law04_FloatsFrom xs [] (Bo true) [] := by
  intro xs h
  simp only [okArgsS, okS, if_false, Bool.false_eq_true] at h
  obtain ⟨_, _, rfl, ⟨a, rfl, ha⟩, rfl⟩ := h
  exact f_law04_FloatsFrom a (f64_wf ha)

set_option maxRecDepth 100000 in
theorem floatsFrom_lifted (os : Os) (started : os.Started) (H : Type) (enc : TypeId × Value → H) :
    ReturnsInHanded {} Try.checked os 3 .any (Rows.floatsFromSpec.pre6 enc Try.prog Try.f3 Rows.floatsFromRow.domain false) (Rows.floatsFromSpec.post enc Try.prog Try.f3 false true false false) := by
  refine returnsInHanded_of_change_sized (C := Try.checked) Try.own started (by kernel_rfl) Try.func3
    (ChangeSpec.witness6 (enc := enc) (C := Try.checked) false ⟨#[], #[.float .f64 0], []⟩ 8 (by kernel_rfl) (by kernel_rfl) (by kernel_rfl) (by kernel_rfl)) ?_
  intro W base args ds gs before hval hW hcnd hwt _
  refine law_post2 (E := E0) (m := 8) (ss := [(false, .fl .f64)]) Try.laidOut (by kernel_rfl) Try.func3 trivial (fun b h => h.elim) rfl rfl (by kernel_rfl) ?_ (by kernel_rfl) (by kernel_rfl) hval hW hwt ok_FloatsFrom
  intro ds h
  rcases ds with _ | ⟨d1, _ | ⟨d2, r⟩⟩ <;> first | rfl | (simp [Try.params3] at h)

theorem floatsFrom_holds : Rows.FloatsFromSaid :=
  OpenClaim.holds_of_wide 3 Try.f3 rfl rfl rfl rfl rfl rfl rfl ⟨rfl, rfl, rfl, rfl, rfl⟩ rfl rfl rfl rfl rfl (by kernel_rfl) Try.func3 (by kernel_rfl)
    (of_decide_eq_true (by kernel_rfl)) (by unfold Func.isWrapper; first | (rw [if_pos (by decide +kernel)]; kernel_rfl) | (rw [if_neg (by decide +kernel)]; exact ⟨rfl, rfl⟩))
    (fun os started H enc _ => floatsFrom_lifted os started H enc)

theorem ok_FloatsTo : ∀ xs, okArgsS [(true, .st [.bo, .it .i64])] xs → Meets Try.prog E0 n_law04_FloatsTo xs [] (Bo true) [] := by
  intro xs h
  simp only [okArgsS, okS, okSs, if_true, if_false, Bool.false_eq_true] at h
  obtain ⟨_, _, rfl, ⟨_, _, rfl, ⟨x, rfl⟩, _, _, rfl, ⟨v, rfl, hv⟩, rfl⟩, rfl⟩ := h
  obtain ⟨v1, v2⟩ := i64_wf hv
  exact f_law04_FloatsTo x v v1 v2

set_option maxRecDepth 100000 in
theorem floatsTo_lifted (os : Os) (started : os.Started) (H : Type) (enc : TypeId × Value → H) :
    ReturnsInHanded {} Try.checked os 4 .any (Rows.floatsToSpec.pre6 enc Try.prog Try.f4 Rows.floatsToRow.domain false) (Rows.floatsToSpec.post enc Try.prog Try.f4 false true false false) := by
  refine returnsInHanded_of_change_sized (C := Try.checked) Try.own started (by kernel_rfl) Try.func4
    (ChangeSpec.witness6 (enc := enc) (C := Try.checked) false ⟨#[], #[.agg #[.bool false, .int .i64 0]], []⟩ 8 (by kernel_rfl) (by kernel_rfl) (by kernel_rfl) (by kernel_rfl)) ?_
  intro W base args ds gs before hval hW hcnd hwt _
  refine law_post2 (E := E0) (m := 8) (ss := [(true, .st [.bo, .it .i64])]) Try.laidOut (by kernel_rfl) Try.func4 trivial (fun b h => h.elim) rfl rfl (by kernel_rfl) ?_ (by kernel_rfl) (by kernel_rfl) hval hW hwt ok_FloatsTo
  intro ds h
  rcases ds with _ | ⟨d1, _ | ⟨d2, r⟩⟩ <;> first | rfl | (simp [Try.params4] at h)

theorem floatsTo_holds : Rows.FloatsToSaid :=
  OpenClaim.holds_of_wide 4 Try.f4 rfl rfl rfl rfl rfl rfl rfl ⟨rfl, rfl, rfl, rfl, rfl⟩ rfl rfl rfl rfl rfl (by kernel_rfl) Try.func4 (by kernel_rfl)
    (of_decide_eq_true (by kernel_rfl)) (by unfold Func.isWrapper; first | (rw [if_pos (by decide +kernel)]; kernel_rfl) | (rw [if_neg (by decide +kernel)]; exact ⟨rfl, rfl⟩))
    (fun os started H enc _ => floatsTo_lifted os started H enc)

theorem ok_FloatsOrder : ∀ xs, okArgsS [(false, .fl .f64), (false, .fl .f64), (false, .fl .f64)] xs → Meets Try.prog E0 n_law04_FloatsOrder xs [] (Bo true) [] := by
  intro xs h
  simp only [okArgsS, okS, if_false, Bool.false_eq_true] at h
  obtain ⟨_, _, rfl, ⟨a, rfl, ha⟩, _, _, rfl, ⟨b, rfl, hb⟩, _, _, rfl, ⟨c, rfl, hc⟩, rfl⟩ := h
  exact f_law04_FloatsOrder a b c (f64_wf ha) (f64_wf hb) (f64_wf hc)

set_option maxRecDepth 100000 in
theorem floatsOrder_lifted (os : Os) (started : os.Started) (H : Type) (enc : TypeId × Value → H) :
    ReturnsInHanded {} Try.checked os 5 .any (Rows.floatsOrderSpec.pre6 enc Try.prog Try.f5 Rows.floatsOrderRow.domain false) (Rows.floatsOrderSpec.post enc Try.prog Try.f5 false true false false) := by
  refine returnsInHanded_of_change_sized (C := Try.checked) Try.own started (by kernel_rfl) Try.func5
    (ChangeSpec.witness6 (enc := enc) (C := Try.checked) false ⟨#[], #[.float .f64 0, .float .f64 0, .float .f64 0], []⟩ 8 (by kernel_rfl) (by kernel_rfl) (by kernel_rfl) (by kernel_rfl)) ?_
  intro W base args ds gs before hval hW hcnd hwt _
  refine law_post2 (E := E0) (m := 8) (ss := [(false, .fl .f64), (false, .fl .f64), (false, .fl .f64)]) Try.laidOut (by kernel_rfl) Try.func5 trivial (fun b h => h.elim) rfl rfl (by kernel_rfl) ?_ (by kernel_rfl) (by kernel_rfl) hval hW hwt ok_FloatsOrder
  intro ds h
  rcases ds with _ | ⟨d1, _ | ⟨d2, _ | ⟨d3, _ | ⟨d4, r⟩⟩⟩⟩ <;> first | rfl | (simp [Try.params5] at h)

theorem floatsOrder_holds : Rows.FloatsOrderSaid :=
  OpenClaim.holds_of_wide 5 Try.f5 rfl rfl rfl rfl rfl rfl rfl ⟨rfl, rfl, rfl, rfl, rfl⟩ rfl rfl rfl rfl rfl (by kernel_rfl) Try.func5 (by kernel_rfl)
    (of_decide_eq_true (by kernel_rfl)) (by unfold Func.isWrapper; first | (rw [if_pos (by decide +kernel)]; kernel_rfl) | (rw [if_neg (by decide +kernel)]; exact ⟨rfl, rfl⟩))
    (fun os started H enc _ => floatsOrder_lifted os started H enc)

end Go.Proofs.Ytgablplpdocniaa
