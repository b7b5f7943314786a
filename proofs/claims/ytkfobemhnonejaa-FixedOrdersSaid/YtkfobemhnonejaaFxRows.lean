/- The rows on numbers with six decimals, proved: whatever the input. -/
import Derived.Test.YtkfobemhnonejaaFxNear
import Derived.Test.YtkfobemhnonejaaRowBase
import Derived.ProofKit
set_option linter.unusedSimpArgs false
set_option linter.unusedVariables false
namespace Go.Proofs.Ytkfobemhnonejaa
open Go Go.Sx Go.ChangeShapes Go.WideShapes Go.ChangeAt Go.RowKit

theorem ok_FixedMuls : ∀ xs, okArgsS [(true, .st [.bo, .it .i64]), (true, .st [.bo, .it .i64])] xs → Meets Try.prog E0 n_law02_FixedMuls xs [] (Bo true) [] := by
  intro xs h
  simp only [okArgsS, okS, okSs, if_true, if_false, Bool.false_eq_true] at h
  obtain ⟨_, _, rfl, ⟨_, _, rfl, ⟨x, rfl⟩, _, _, rfl, ⟨v, rfl, hv⟩, rfl⟩, _, _, rfl, ⟨_, _, rfl, ⟨y, rfl⟩, _, _, rfl, ⟨u, rfl, hu⟩, rfl⟩, rfl⟩ := h
  obtain ⟨v1, v2⟩ := i64_wf hv
  obtain ⟨u1, u2⟩ := i64_wf hu
  exact f_law02_FixedMuls x y v u v1 v2 u1 u2

set_option maxRecDepth 100000 in
theorem fixedMuls_lifted (os : Os) (started : os.Started) (H : Type) (enc : TypeId × Value → H) :
    ReturnsInHanded {} Try.checked os 3 .any (Rows.fixedMulsSpec.pre6 enc Try.prog Try.f3 Rows.fixedMulsRow.domain false) (Rows.fixedMulsSpec.post enc Try.prog Try.f3 false true false false) := by
  refine returnsInHanded_of_change (C := Try.checked) Try.own started (by kernel_rfl) Try.func3
    (ChangeSpec.witness6 (enc := enc) (C := Try.checked) false ⟨#[], #[.agg #[.bool false, .int .i64 0], .agg #[.bool false, .int .i64 0]], []⟩ 8 (by kernel_rfl) (by kernel_rfl) (by kernel_rfl) (by kernel_rfl)) ?_
  intro W base args ds gs before hval hW hcnd _
  refine law_post2 (E := E0) (m := 8) (ss := [(true, .st [.bo, .it .i64]), (true, .st [.bo, .it .i64])]) Try.laidOut (by kernel_rfl) Try.func3 trivial (fun b h => h.elim) rfl rfl (by kernel_rfl) ?_ (by kernel_rfl) (by kernel_rfl) hval hW ok_FixedMuls
  intro ds h
  rcases ds with _ | ⟨d1, _ | ⟨d2, _ | ⟨d3, r⟩⟩⟩ <;> first | rfl | (simp [Try.params3] at h)

theorem fixedMuls_holds : Rows.FixedMulsSaid :=
  OpenClaim.holds_of_wide 3 Try.f3 rfl rfl rfl rfl rfl rfl rfl ⟨rfl, rfl, rfl, rfl, rfl⟩ rfl rfl rfl rfl rfl (by kernel_rfl) Try.func3 (by kernel_rfl)
    (of_decide_eq_true (by kernel_rfl)) (by unfold Func.isWrapper; first | (rw [if_pos (by decide +kernel)]; kernel_rfl) | (rw [if_neg (by decide +kernel)]; exact ⟨rfl, rfl⟩))
    (fun os started H enc _ => fixedMuls_lifted os started H enc)

theorem ok_FixedRoots : ∀ xs, okArgsS [(true, .st [.bo, .it .i64]), (false, .it .i64)] xs → Meets Try.prog E0 n_law02_FixedRoots xs [] (Bo true) [] := by
  intro xs h
  simp only [okArgsS, okS, okSs, if_true, if_false, Bool.false_eq_true] at h
  obtain ⟨_, _, rfl, ⟨_, _, rfl, ⟨x, rfl⟩, _, _, rfl, ⟨v, rfl, hv⟩, rfl⟩, _, _, rfl, ⟨k, rfl, hk⟩, rfl⟩ := h
  obtain ⟨v1, v2⟩ := i64_wf hv
  exact f_law02_FixedRoots x v k v1 v2

set_option maxRecDepth 100000 in
theorem fixedRoots_lifted (os : Os) (started : os.Started) (H : Type) (enc : TypeId × Value → H) :
    ReturnsInHanded {} Try.checked os 4 .any (Rows.fixedRootsSpec.pre6 enc Try.prog Try.f4 Rows.fixedRootsRow.domain false) (Rows.fixedRootsSpec.post enc Try.prog Try.f4 false true false false) := by
  refine returnsInHanded_of_change (C := Try.checked) Try.own started (by kernel_rfl) Try.func4
    (ChangeSpec.witness6 (enc := enc) (C := Try.checked) false ⟨#[], #[.agg #[.bool false, .int .i64 0], .int .i64 0], []⟩ 8 (by kernel_rfl) (by kernel_rfl) (by kernel_rfl) (by kernel_rfl)) ?_
  intro W base args ds gs before hval hW hcnd _
  refine law_post2 (E := E0) (m := 8) (ss := [(true, .st [.bo, .it .i64]), (false, .it .i64)]) Try.laidOut (by kernel_rfl) Try.func4 trivial (fun b h => h.elim) rfl rfl (by kernel_rfl) ?_ (by kernel_rfl) (by kernel_rfl) hval hW ok_FixedRoots
  intro ds h
  rcases ds with _ | ⟨d1, _ | ⟨d2, _ | ⟨d3, r⟩⟩⟩ <;> first | rfl | (simp [Try.params4] at h)

theorem fixedRoots_holds : Rows.FixedRootsSaid :=
  OpenClaim.holds_of_wide 4 Try.f4 rfl rfl rfl rfl rfl rfl rfl ⟨rfl, rfl, rfl, rfl, rfl⟩ rfl rfl rfl rfl rfl (by kernel_rfl) Try.func4 (by kernel_rfl)
    (of_decide_eq_true (by kernel_rfl)) (by unfold Func.isWrapper; first | (rw [if_pos (by decide +kernel)]; kernel_rfl) | (rw [if_neg (by decide +kernel)]; exact ⟨rfl, rfl⟩))
    (fun os started H enc _ => fixedRoots_lifted os started H enc)

theorem ok_FixedNear : ∀ xs, okArgsS [(true, .st [.bo, .it .i64]), (true, .st [.bo, .it .i64])] xs → Meets Try.prog E0 n_law02_FixedNear xs [] (Bo true) [] := by
  intro xs h
  simp only [okArgsS, okS, okSs, if_true, if_false, Bool.false_eq_true] at h
  obtain ⟨_, _, rfl, ⟨_, _, rfl, ⟨x, rfl⟩, _, _, rfl, ⟨v, rfl, hv⟩, rfl⟩, _, _, rfl, ⟨_, _, rfl, ⟨y, rfl⟩, _, _, rfl, ⟨u, rfl, hu⟩, rfl⟩, rfl⟩ := h
  obtain ⟨v1, v2⟩ := i64_wf hv
  obtain ⟨u1, u2⟩ := i64_wf hu
  exact f_law02_FixedNear x y v u v1 v2 u1 u2

set_option maxRecDepth 100000 in
theorem fixedNear_lifted (os : Os) (started : os.Started) (H : Type) (enc : TypeId × Value → H) :
    ReturnsInHanded {} Try.checked os 5 .any (Rows.fixedNearSpec.pre6 enc Try.prog Try.f5 Rows.fixedNearRow.domain false) (Rows.fixedNearSpec.post enc Try.prog Try.f5 false true false false) := by
  refine returnsInHanded_of_change (C := Try.checked) Try.own started (by kernel_rfl) Try.func5
    (ChangeSpec.witness6 (enc := enc) (C := Try.checked) false ⟨#[], #[.agg #[.bool false, .int .i64 0], .agg #[.bool false, .int .i64 0]], []⟩ 8 (by kernel_rfl) (by kernel_rfl) (by kernel_rfl) (by kernel_rfl)) ?_
  intro W base args ds gs before hval hW hcnd _
  refine law_post2 (E := E0) (m := 8) (ss := [(true, .st [.bo, .it .i64]), (true, .st [.bo, .it .i64])]) Try.laidOut (by kernel_rfl) Try.func5 trivial (fun b h => h.elim) rfl rfl (by kernel_rfl) ?_ (by kernel_rfl) (by kernel_rfl) hval hW ok_FixedNear
  intro ds h
  rcases ds with _ | ⟨d1, _ | ⟨d2, _ | ⟨d3, r⟩⟩⟩ <;> first | rfl | (simp [Try.params5] at h)

theorem fixedNear_holds : Rows.FixedNearSaid :=
  OpenClaim.holds_of_wide 5 Try.f5 rfl rfl rfl rfl rfl rfl rfl ⟨rfl, rfl, rfl, rfl, rfl⟩ rfl rfl rfl rfl rfl (by kernel_rfl) Try.func5 (by kernel_rfl)
    (of_decide_eq_true (by kernel_rfl)) (by unfold Func.isWrapper; first | (rw [if_pos (by decide +kernel)]; kernel_rfl) | (rw [if_neg (by decide +kernel)]; exact ⟨rfl, rfl⟩))
    (fun os started H enc _ => fixedNear_lifted os started H enc)

theorem ok_FixedRoot : ∀ xs, okArgsS [(true, .st [.bo, .it .i64])] xs → Meets Try.prog E0 n_law02_FixedRoot xs [] (Bo true) [] := by
  intro xs h
  simp only [okArgsS, okS, okSs, if_true, if_false, Bool.false_eq_true] at h
  obtain ⟨_, _, rfl, ⟨_, _, rfl, ⟨x, rfl⟩, _, _, rfl, ⟨v, rfl, hv⟩, rfl⟩, rfl⟩ := h
  obtain ⟨v1, v2⟩ := i64_wf hv
  exact f_law02_FixedRoot x v v1 v2

set_option maxRecDepth 100000 in
theorem fixedRoot_lifted (os : Os) (started : os.Started) (H : Type) (enc : TypeId × Value → H) :
    ReturnsInHanded {} Try.checked os 6 .any (Rows.fixedRootSpec.pre6 enc Try.prog Try.f6 Rows.fixedRootRow.domain false) (Rows.fixedRootSpec.post enc Try.prog Try.f6 false true false false) := by
  refine returnsInHanded_of_change (C := Try.checked) Try.own started (by kernel_rfl) Try.func6
    (ChangeSpec.witness6 (enc := enc) (C := Try.checked) false ⟨#[], #[.agg #[.bool false, .int .i64 0]], []⟩ 8 (by kernel_rfl) (by kernel_rfl) (by kernel_rfl) (by kernel_rfl)) ?_
  intro W base args ds gs before hval hW hcnd _
  refine law_post2 (E := E0) (m := 8) (ss := [(true, .st [.bo, .it .i64])]) Try.laidOut (by kernel_rfl) Try.func6 trivial (fun b h => h.elim) rfl rfl (by kernel_rfl) ?_ (by kernel_rfl) (by kernel_rfl) hval hW ok_FixedRoot
  intro ds h
  rcases ds with _ | ⟨d1, _ | ⟨d2, r⟩⟩ <;> first | rfl | (simp [Try.params6] at h)

theorem fixedRoot_holds : Rows.FixedRootSaid :=
  OpenClaim.holds_of_wide 6 Try.f6 rfl rfl rfl rfl rfl rfl rfl ⟨rfl, rfl, rfl, rfl, rfl⟩ rfl rfl rfl rfl rfl (by kernel_rfl) Try.func6 (by kernel_rfl)
    (of_decide_eq_true (by kernel_rfl)) (by unfold Func.isWrapper; first | (rw [if_pos (by decide +kernel)]; kernel_rfl) | (rw [if_neg (by decide +kernel)]; exact ⟨rfl, rfl⟩))
    (fun os started H enc _ => fixedRoot_lifted os started H enc)

theorem ok_FixedMakes : ∀ xs, okArgsS [(true, .st [.bo, .it .i64]), (false, .it .i64), (false, .it .i64)] xs → Meets Try.prog E0 n_law02_FixedMakes xs [] (Bo true) [] := by
  intro xs h
  simp only [okArgsS, okS, okSs, if_true, if_false, Bool.false_eq_true] at h
  obtain ⟨_, _, rfl, ⟨_, _, rfl, ⟨x, rfl⟩, _, _, rfl, ⟨v, rfl, hv⟩, rfl⟩, _, _, rfl, ⟨u, rfl, hu⟩, _, _, rfl, ⟨i, rfl, hi⟩, rfl⟩ := h
  obtain ⟨v1, v2⟩ := i64_wf hv
  obtain ⟨u1, u2⟩ := i64_wf hu
  obtain ⟨i1, i2⟩ := i64_wf hi
  exact f_law02_FixedMakes x v u i v1 v2 u1 u2 i1 i2

set_option maxRecDepth 100000 in
theorem fixedMakes_lifted (os : Os) (started : os.Started) (H : Type) (enc : TypeId × Value → H) :
    ReturnsInHanded {} Try.checked os 7 .any (Rows.fixedMakesSpec.pre6 enc Try.prog Try.f7 Rows.fixedMakesRow.domain false) (Rows.fixedMakesSpec.post enc Try.prog Try.f7 false true false false) := by
  refine returnsInHanded_of_change (C := Try.checked) Try.own started (by kernel_rfl) Try.func7
    (ChangeSpec.witness6 (enc := enc) (C := Try.checked) false ⟨#[], #[.agg #[.bool false, .int .i64 0], .int .i64 0, .int .i64 0], []⟩ 8 (by kernel_rfl) (by kernel_rfl) (by kernel_rfl) (by kernel_rfl)) ?_
  intro W base args ds gs before hval hW hcnd _
  refine law_post2 (E := E0) (m := 8) (ss := [(true, .st [.bo, .it .i64]), (false, .it .i64), (false, .it .i64)]) Try.laidOut (by kernel_rfl) Try.func7 trivial (fun b h => h.elim) rfl rfl (by kernel_rfl) ?_ (by kernel_rfl) (by kernel_rfl) hval hW ok_FixedMakes
  intro ds h
  rcases ds with _ | ⟨d1, _ | ⟨d2, _ | ⟨d3, _ | ⟨d4, r⟩⟩⟩⟩ <;> first | rfl | (simp [Try.params7] at h)

theorem fixedMakes_holds : Rows.FixedMakesSaid :=
  OpenClaim.holds_of_wide 7 Try.f7 rfl rfl rfl rfl rfl rfl rfl ⟨rfl, rfl, rfl, rfl, rfl⟩ rfl rfl rfl rfl rfl (by kernel_rfl) Try.func7 (by kernel_rfl)
    (of_decide_eq_true (by kernel_rfl)) (by unfold Func.isWrapper; first | (rw [if_pos (by decide +kernel)]; kernel_rfl) | (rw [if_neg (by decide +kernel)]; exact ⟨rfl, rfl⟩))
    (fun os started H enc _ => fixedMakes_lifted os started H enc)

theorem ok_FixedThree : ∀ xs, okArgsS [(true, .st [.bo, .it .i64]), (true, .st [.bo, .it .i64]), (true, .st [.bo, .it .i64])] xs → Meets Try.prog E0 n_law02_FixedThree xs [] (Bo true) [] := by
  intro xs h
  simp only [okArgsS, okS, okSs, if_true, if_false, Bool.false_eq_true] at h
  obtain ⟨_, _, rfl, ⟨_, _, rfl, ⟨x, rfl⟩, _, _, rfl, ⟨v, rfl, hv⟩, rfl⟩, _, _, rfl, ⟨_, _, rfl, ⟨y, rfl⟩, _, _, rfl, ⟨u, rfl, hu⟩, rfl⟩, _, _, rfl, ⟨_, _, rfl, ⟨z, rfl⟩, _, _, rfl, ⟨w, rfl, hw⟩, rfl⟩, rfl⟩ := h
  obtain ⟨v1, v2⟩ := i64_wf hv
  obtain ⟨u1, u2⟩ := i64_wf hu
  obtain ⟨w1, w2⟩ := i64_wf hw
  exact f_law02_FixedThree x y z v u w v1 v2 u1 u2 w1 w2

set_option maxRecDepth 100000 in
theorem fixedThree_lifted (os : Os) (started : os.Started) (H : Type) (enc : TypeId × Value → H) :
    ReturnsInHanded {} Try.checked os 8 .any (Rows.fixedThreeSpec.pre6 enc Try.prog Try.f8 Rows.fixedThreeRow.domain false) (Rows.fixedThreeSpec.post enc Try.prog Try.f8 false true false false) := by
  refine returnsInHanded_of_change (C := Try.checked) Try.own started (by kernel_rfl) Try.func8
    (ChangeSpec.witness6 (enc := enc) (C := Try.checked) false ⟨#[], #[.agg #[.bool false, .int .i64 0], .agg #[.bool false, .int .i64 0], .agg #[.bool false, .int .i64 0]], []⟩ 8 (by kernel_rfl) (by kernel_rfl) (by kernel_rfl) (by kernel_rfl)) ?_
  intro W base args ds gs before hval hW hcnd _
  refine law_post2 (E := E0) (m := 8) (ss := [(true, .st [.bo, .it .i64]), (true, .st [.bo, .it .i64]), (true, .st [.bo, .it .i64])]) Try.laidOut (by kernel_rfl) Try.func8 trivial (fun b h => h.elim) rfl rfl (by kernel_rfl) ?_ (by kernel_rfl) (by kernel_rfl) hval hW ok_FixedThree
  intro ds h
  rcases ds with _ | ⟨d1, _ | ⟨d2, _ | ⟨d3, _ | ⟨d4, r⟩⟩⟩⟩ <;> first | rfl | (simp [Try.params8] at h)

theorem fixedThree_holds : Rows.FixedThreeSaid :=
  OpenClaim.holds_of_wide 8 Try.f8 rfl rfl rfl rfl rfl rfl rfl ⟨rfl, rfl, rfl, rfl, rfl⟩ rfl rfl rfl rfl rfl (by kernel_rfl) Try.func8 (by kernel_rfl)
    (of_decide_eq_true (by kernel_rfl)) (by unfold Func.isWrapper; first | (rw [if_pos (by decide +kernel)]; kernel_rfl) | (rw [if_neg (by decide +kernel)]; exact ⟨rfl, rfl⟩))
    (fun os started H enc _ => fixedThree_lifted os started H enc)

theorem ok_FixedLaws : ∀ xs, okArgsS [(true, .st [.bo, .it .i64]), (true, .st [.bo, .it .i64])] xs → Meets Try.prog E0 n_law02_FixedLaws xs [] (Bo true) [] := by
  intro xs h
  simp only [okArgsS, okS, okSs, if_true, if_false, Bool.false_eq_true] at h
  obtain ⟨_, _, rfl, ⟨_, _, rfl, ⟨x, rfl⟩, _, _, rfl, ⟨v, rfl, hv⟩, rfl⟩, _, _, rfl, ⟨_, _, rfl, ⟨y, rfl⟩, _, _, rfl, ⟨u, rfl, hu⟩, rfl⟩, rfl⟩ := h
  obtain ⟨v1, v2⟩ := i64_wf hv
  obtain ⟨u1, u2⟩ := i64_wf hu
  exact f_law02_FixedLaws x y v u v1 v2 u1 u2

set_option maxRecDepth 100000 in
theorem fixedLaws_lifted (os : Os) (started : os.Started) (H : Type) (enc : TypeId × Value → H) :
    ReturnsInHanded {} Try.checked os 9 .any (Rows.fixedLawsSpec.pre6 enc Try.prog Try.f9 Rows.fixedLawsRow.domain false) (Rows.fixedLawsSpec.post enc Try.prog Try.f9 false true false false) := by
  refine returnsInHanded_of_change (C := Try.checked) Try.own started (by kernel_rfl) Try.func9
    (ChangeSpec.witness6 (enc := enc) (C := Try.checked) false ⟨#[], #[.agg #[.bool false, .int .i64 0], .agg #[.bool false, .int .i64 0]], []⟩ 8 (by kernel_rfl) (by kernel_rfl) (by kernel_rfl) (by kernel_rfl)) ?_
  intro W base args ds gs before hval hW hcnd _
  refine law_post2 (E := E0) (m := 8) (ss := [(true, .st [.bo, .it .i64]), (true, .st [.bo, .it .i64])]) Try.laidOut (by kernel_rfl) Try.func9 trivial (fun b h => h.elim) rfl rfl (by kernel_rfl) ?_ (by kernel_rfl) (by kernel_rfl) hval hW ok_FixedLaws
  intro ds h
  rcases ds with _ | ⟨d1, _ | ⟨d2, _ | ⟨d3, r⟩⟩⟩ <;> first | rfl | (simp [Try.params9] at h)

theorem fixedLaws_holds : Rows.FixedLawsSaid :=
  OpenClaim.holds_of_wide 9 Try.f9 rfl rfl rfl rfl rfl rfl rfl ⟨rfl, rfl, rfl, rfl, rfl⟩ rfl rfl rfl rfl rfl (by kernel_rfl) Try.func9 (by kernel_rfl)
    (of_decide_eq_true (by kernel_rfl)) (by unfold Func.isWrapper; first | (rw [if_pos (by decide +kernel)]; kernel_rfl) | (rw [if_neg (by decide +kernel)]; exact ⟨rfl, rfl⟩))
    (fun os started H enc _ => fixedLaws_lifted os started H enc)

theorem ok_FixedAdds : ∀ xs, okArgsS [(true, .st [.bo, .it .i64]), (true, .st [.bo, .it .i64])] xs → Meets Try.prog E0 n_law02_FixedAdds xs [] (Bo true) [] := by
  intro xs h
  simp only [okArgsS, okS, okSs, if_true, if_false, Bool.false_eq_true] at h
  obtain ⟨_, _, rfl, ⟨_, _, rfl, ⟨x, rfl⟩, _, _, rfl, ⟨v, rfl, hv⟩, rfl⟩, _, _, rfl, ⟨_, _, rfl, ⟨y, rfl⟩, _, _, rfl, ⟨u, rfl, hu⟩, rfl⟩, rfl⟩ := h
  obtain ⟨v1, v2⟩ := i64_wf hv
  obtain ⟨u1, u2⟩ := i64_wf hu
  exact f_law02_FixedAdds x y v u v1 v2 u1 u2

set_option maxRecDepth 100000 in
theorem fixedAdds_lifted (os : Os) (started : os.Started) (H : Type) (enc : TypeId × Value → H) :
    ReturnsInHanded {} Try.checked os 10 .any (Rows.fixedAddsSpec.pre6 enc Try.prog Try.f10 Rows.fixedAddsRow.domain false) (Rows.fixedAddsSpec.post enc Try.prog Try.f10 false true false false) := by
  refine returnsInHanded_of_change (C := Try.checked) Try.own started (by kernel_rfl) Try.func10
    (ChangeSpec.witness6 (enc := enc) (C := Try.checked) false ⟨#[], #[.agg #[.bool false, .int .i64 0], .agg #[.bool false, .int .i64 0]], []⟩ 8 (by kernel_rfl) (by kernel_rfl) (by kernel_rfl) (by kernel_rfl)) ?_
  intro W base args ds gs before hval hW hcnd _
  refine law_post2 (E := E0) (m := 8) (ss := [(true, .st [.bo, .it .i64]), (true, .st [.bo, .it .i64])]) Try.laidOut (by kernel_rfl) Try.func10 trivial (fun b h => h.elim) rfl rfl (by kernel_rfl) ?_ (by kernel_rfl) (by kernel_rfl) hval hW ok_FixedAdds
  intro ds h
  rcases ds with _ | ⟨d1, _ | ⟨d2, _ | ⟨d3, r⟩⟩⟩ <;> first | rfl | (simp [Try.params10] at h)

theorem fixedAdds_holds : Rows.FixedAddsSaid :=
  OpenClaim.holds_of_wide 10 Try.f10 rfl rfl rfl rfl rfl rfl rfl ⟨rfl, rfl, rfl, rfl, rfl⟩ rfl rfl rfl rfl rfl (by kernel_rfl) Try.func10 (by kernel_rfl)
    (of_decide_eq_true (by kernel_rfl)) (by unfold Func.isWrapper; first | (rw [if_pos (by decide +kernel)]; kernel_rfl) | (rw [if_neg (by decide +kernel)]; exact ⟨rfl, rfl⟩))
    (fun os started H enc _ => fixedAdds_lifted os started H enc)

theorem ok_FixedOrders : ∀ xs, okArgsS [(true, .st [.bo, .it .i64]), (true, .st [.bo, .it .i64])] xs → Meets Try.prog E0 n_law02_FixedOrders xs [] (Bo true) [] := by
  intro xs h
  simp only [okArgsS, okS, okSs, if_true, if_false, Bool.false_eq_true] at h
  obtain ⟨_, _, rfl, ⟨_, _, rfl, ⟨x, rfl⟩, _, _, rfl, ⟨v, rfl, hv⟩, rfl⟩, _, _, rfl, ⟨_, _, rfl, ⟨y, rfl⟩, _, _, rfl, ⟨u, rfl, hu⟩, rfl⟩, rfl⟩ := h
  obtain ⟨v1, v2⟩ := i64_wf hv
  obtain ⟨u1, u2⟩ := i64_wf hu
  exact f_law02_FixedOrders x y v u v1 v2 u1 u2

set_option maxRecDepth 100000 in
theorem fixedOrders_lifted (os : Os) (started : os.Started) (H : Type) (enc : TypeId × Value → H) :
    ReturnsInHanded {} Try.checked os 11 .any (Rows.fixedOrdersSpec.pre6 enc Try.prog Try.f11 Rows.fixedOrdersRow.domain false) (Rows.fixedOrdersSpec.post enc Try.prog Try.f11 false true false false) := by
  refine returnsInHanded_of_change (C := Try.checked) Try.own started (by kernel_rfl) Try.func11
    (ChangeSpec.witness6 (enc := enc) (C := Try.checked) false ⟨#[], #[.agg #[.bool false, .int .i64 0], .agg #[.bool false, .int .i64 0]], []⟩ 8 (by kernel_rfl) (by kernel_rfl) (by kernel_rfl) (by kernel_rfl)) ?_
  intro W base args ds gs before hval hW hcnd _
  refine law_post2 (E := E0) (m := 8) (ss := [(true, .st [.bo, .it .i64]), (true, .st [.bo, .it .i64])]) Try.laidOut (by kernel_rfl) Try.func11 trivial (fun b h => h.elim) rfl rfl (by kernel_rfl) ?_ (by kernel_rfl) (by kernel_rfl) hval hW ok_FixedOrders
  intro ds h
  rcases ds with _ | ⟨d1, _ | ⟨d2, _ | ⟨d3, r⟩⟩⟩ <;> first | rfl | (simp [Try.params11] at h)

theorem fixedOrders_holds : Rows.FixedOrdersSaid :=
  OpenClaim.holds_of_wide 11 Try.f11 rfl rfl rfl rfl rfl rfl rfl ⟨rfl, rfl, rfl, rfl, rfl⟩ rfl rfl rfl rfl rfl (by kernel_rfl) Try.func11 (by kernel_rfl)
    (of_decide_eq_true (by kernel_rfl)) (by unfold Func.isWrapper; first | (rw [if_pos (by decide +kernel)]; kernel_rfl) | (rw [if_neg (by decide +kernel)]; exact ⟨rfl, rfl⟩))
    (fun os started H enc _ => fixedOrders_lifted os started H enc)

end Go.Proofs.Ytkfobemhnonejaa
