/- The rows on wide numbers, proved, each under its condition: whatever the input. -/
import Derived.Test.YtolfdpklblepfaaWdLawb
import Derived.Test.YtolfdpklblepfaaRowBase
import Derived.ProofKit
set_option linter.unusedSimpArgs false
set_option linter.unusedVariables false
namespace Go.Proofs.Ytolfdpklblepfaa
open Go Go.Sx Go.ChangeShapes Go.WideShapes Go.ChangeAt Go.RowKit

theorem wv_of {x y : Nat} (hx : x < 18446744073709551616) (hy : y < 18446744073709551616) : ∃ a, a < 340282366920938463463374607431768211456 ∧ WV a = .ag [U x, U y] :=
  ⟨x * 18446744073709551616 + y, by omega, by simp only [WV]; rw [show (x * 18446744073709551616 + y) / 18446744073709551616 = x by omega, show (x * 18446744073709551616 + y) % 18446744073709551616 = y by omega]⟩

theorem ok_WideMuls : ∀ xs, okArgsS [(false, .it .u64), (false, .it .u64)] xs → Meets Try.prog E0 n_law01_WideMuls xs [] (Bo true) [] := by
  intro xs h
  simp [okArgsS, okS] at h
  obtain ⟨_, _, rfl, ⟨i, rfl, hi⟩, _, rfl, j, rfl, hj⟩ := h
  obtain ⟨x, hx, rfl⟩ := u64_wf hi
  obtain ⟨y, hy, rfl⟩ := u64_wf hj
  exact f_law01_WideMuls x y hx hy

set_option maxRecDepth 100000 in
theorem wideMuls_lifted (os : Os) (started : os.Started) (H : Type) (enc : TypeId × Value → H) :
    ReturnsInHanded {} Try.checked os 3 .any (Rows.wideMulsSpec.pre6 enc Try.prog Try.f3 Rows.wideMulsRow.domain false) (Rows.wideMulsSpec.post enc Try.prog Try.f3 false true false false) := by
  refine returnsInHanded_of_change (C := Try.checked) Try.own started (by kernel_rfl) Try.func3
    (ChangeSpec.witness6 (enc := enc) (C := Try.checked) false ⟨#[], #[.int .u64 0, .int .u64 0], []⟩ 8 (by kernel_rfl) (by kernel_rfl) (by kernel_rfl) (by kernel_rfl)) ?_
  intro W base args ds gs before hval hW hcnd _
  refine law_post2 (E := E0) (m := 8) (ss := [(false, .it .u64), (false, .it .u64)]) Try.laidOut (by kernel_rfl) Try.func3 trivial (fun b h => h.elim) rfl rfl (by kernel_rfl) ?_ (by kernel_rfl) (by kernel_rfl) hval hW ok_WideMuls
  intro ds h
  rcases ds with _ | ⟨d1, _ | ⟨d2, _ | ⟨d3, r⟩⟩⟩ <;> first | rfl | (simp [Try.params3] at h)

theorem wideMuls_holds : Rows.WideMulsSaid :=
  OpenClaim.holds_of_wide 3 Try.f3 rfl rfl rfl rfl rfl rfl rfl ⟨rfl, rfl, rfl, rfl, rfl⟩ rfl rfl rfl rfl rfl (by kernel_rfl) Try.func3 (by kernel_rfl)
    (of_decide_eq_true (by kernel_rfl)) (by unfold Func.isWrapper; first | (rw [if_pos (by decide +kernel)]; kernel_rfl) | (rw [if_neg (by decide +kernel)]; exact ⟨rfl, rfl⟩))
    (fun os started H enc _ => wideMuls_lifted os started H enc)

theorem ok_WideAdds : ∀ xs, okArgsS [(true, .st [.it .u64, .it .u64]), (true, .st [.it .u64, .it .u64])] xs → Meets Try.prog E0 n_law01_WideAdds xs [] (Bo true) [] := by
  intro xs h
  simp [okArgsS, okS, okSs] at h
  obtain ⟨_, _, rfl, ⟨_, _, rfl, ⟨i, rfl, hi⟩, j, rfl, hj⟩, _, rfl, _, _, rfl, ⟨k, rfl, hk⟩, l, rfl, hl⟩ := h
  obtain ⟨x, hx, rfl⟩ := u64_wf hi
  obtain ⟨y, hy, rfl⟩ := u64_wf hj
  obtain ⟨z, hz, rfl⟩ := u64_wf hk
  obtain ⟨u, hu, rfl⟩ := u64_wf hl
  obtain ⟨a, ha, ea⟩ := wv_of hx hy
  obtain ⟨b, hb, eb⟩ := wv_of hz hu
  have := f_law01_WideAdds a b ha hb
  rw [ea, eb] at this
  exact this

set_option maxRecDepth 100000 in
theorem wideAdds_lifted (os : Os) (started : os.Started) (H : Type) (enc : TypeId × Value → H) :
    ReturnsInHanded {} Try.checked os 4 .any (Rows.wideAddsSpec.pre6 enc Try.prog Try.f4 Rows.wideAddsRow.domain false) (Rows.wideAddsSpec.post enc Try.prog Try.f4 false true false false) := by
  refine returnsInHanded_of_change (C := Try.checked) Try.own started (by kernel_rfl) Try.func4
    (ChangeSpec.witness6 (enc := enc) (C := Try.checked) false ⟨#[], #[.agg #[.int .u64 0, .int .u64 0], .agg #[.int .u64 0, .int .u64 0]], []⟩ 8 (by kernel_rfl) (by kernel_rfl) (by kernel_rfl) (by kernel_rfl)) ?_
  intro W base args ds gs before hval hW hcnd _
  refine law_post2 (E := E0) (m := 8) (ss := [(true, .st [.it .u64, .it .u64]), (true, .st [.it .u64, .it .u64])]) Try.laidOut (by kernel_rfl) Try.func4 trivial (fun b h => h.elim) rfl rfl (by kernel_rfl) ?_ (by kernel_rfl) (by kernel_rfl) hval hW ok_WideAdds
  intro ds h
  rcases ds with _ | ⟨d1, _ | ⟨d2, _ | ⟨d3, r⟩⟩⟩ <;> first | rfl | (simp [Try.params4] at h)

theorem wideAdds_holds : Rows.WideAddsSaid :=
  OpenClaim.holds_of_wide 4 Try.f4 rfl rfl rfl rfl rfl rfl rfl ⟨rfl, rfl, rfl, rfl, rfl⟩ rfl rfl rfl rfl rfl (by kernel_rfl) Try.func4 (by kernel_rfl)
    (of_decide_eq_true (by kernel_rfl)) (by unfold Func.isWrapper; first | (rw [if_pos (by decide +kernel)]; kernel_rfl) | (rw [if_neg (by decide +kernel)]; exact ⟨rfl, rfl⟩))
    (fun os started H enc _ => wideAdds_lifted os started H enc)

theorem ok_WideDivs : ∀ xs, okArgsS [(true, .st [.it .u64, .it .u64]), (false, .it .u64)] xs → Meets Try.prog E0 n_law01_WideDivs xs [] (Bo true) [] := by
  intro xs h
  simp [okArgsS, okS, okSs] at h
  obtain ⟨_, _, rfl, ⟨_, _, rfl, ⟨i, rfl, hi⟩, j, rfl, hj⟩, _, rfl, k, rfl, hk⟩ := h
  obtain ⟨x, hx, rfl⟩ := u64_wf hi
  obtain ⟨y, hy, rfl⟩ := u64_wf hj
  obtain ⟨z, hz, rfl⟩ := u64_wf hk
  obtain ⟨a, ha, ea⟩ := wv_of hx hy
  have := f_law01_WideDivs a z ha hz
  rw [ea] at this
  exact this

set_option maxRecDepth 100000 in
theorem wideDivs_lifted (os : Os) (started : os.Started) (H : Type) (enc : TypeId × Value → H) :
    ReturnsInHanded {} Try.checked os 5 .any (Rows.wideDivsSpec.pre6 enc Try.prog Try.f5 Rows.wideDivsRow.domain false) (Rows.wideDivsSpec.post enc Try.prog Try.f5 false true false false) := by
  refine returnsInHanded_of_change (C := Try.checked) Try.own started (by kernel_rfl) Try.func5
    (ChangeSpec.witness6 (enc := enc) (C := Try.checked) false ⟨#[], #[.agg #[.int .u64 0, .int .u64 0], .int .u64 0], []⟩ 8 (by kernel_rfl) (by kernel_rfl) (by kernel_rfl) (by kernel_rfl)) ?_
  intro W base args ds gs before hval hW hcnd _
  refine law_post2 (E := E0) (m := 8) (ss := [(true, .st [.it .u64, .it .u64]), (false, .it .u64)]) Try.laidOut (by kernel_rfl) Try.func5 trivial (fun b h => h.elim) rfl rfl (by kernel_rfl) ?_ (by kernel_rfl) (by kernel_rfl) hval hW ok_WideDivs
  intro ds h
  rcases ds with _ | ⟨d1, _ | ⟨d2, _ | ⟨d3, r⟩⟩⟩ <;> first | rfl | (simp [Try.params5] at h)

theorem wideDivs_holds : Rows.WideDivsSaid :=
  OpenClaim.holds_of_wide 5 Try.f5 rfl rfl rfl rfl rfl rfl rfl ⟨rfl, rfl, rfl, rfl, rfl⟩ rfl rfl rfl rfl rfl (by kernel_rfl) Try.func5 (by kernel_rfl)
    (of_decide_eq_true (by kernel_rfl)) (by unfold Func.isWrapper; first | (rw [if_pos (by decide +kernel)]; kernel_rfl) | (rw [if_neg (by decide +kernel)]; exact ⟨rfl, rfl⟩))
    (fun os started H enc _ => wideDivs_lifted os started H enc)

theorem ok_WideRoots : ∀ xs, okArgsS [(true, .st [.it .u64, .it .u64]), (false, .it .i64)] xs → Meets Try.prog E0 n_law01_WideRoots xs [] (Bo true) [] := by
  intro xs h
  simp [okArgsS, okS, okSs] at h
  obtain ⟨_, _, rfl, ⟨_, _, rfl, ⟨i, rfl, hi⟩, j, rfl, hj⟩, _, rfl, k, rfl, hk⟩ := h
  obtain ⟨x, hx, rfl⟩ := u64_wf hi
  obtain ⟨y, hy, rfl⟩ := u64_wf hj
  obtain ⟨a, ha, ea⟩ := wv_of hx hy
  have := f_law01_WideRoots a k ha
  rw [ea] at this
  exact this

set_option maxRecDepth 100000 in
theorem wideRoots_lifted (os : Os) (started : os.Started) (H : Type) (enc : TypeId × Value → H) :
    ReturnsInHanded {} Try.checked os 6 .any (Rows.wideRootsSpec.pre6 enc Try.prog Try.f6 Rows.wideRootsRow.domain false) (Rows.wideRootsSpec.post enc Try.prog Try.f6 false true false false) := by
  refine returnsInHanded_of_change (C := Try.checked) Try.own started (by kernel_rfl) Try.func6
    (ChangeSpec.witness6 (enc := enc) (C := Try.checked) false ⟨#[], #[.agg #[.int .u64 0, .int .u64 0], .int .i64 0], []⟩ 8 (by kernel_rfl) (by kernel_rfl) (by kernel_rfl) (by kernel_rfl)) ?_
  intro W base args ds gs before hval hW hcnd _
  refine law_post2 (E := E0) (m := 8) (ss := [(true, .st [.it .u64, .it .u64]), (false, .it .i64)]) Try.laidOut (by kernel_rfl) Try.func6 trivial (fun b h => h.elim) rfl rfl (by kernel_rfl) ?_ (by kernel_rfl) (by kernel_rfl) hval hW ok_WideRoots
  intro ds h
  rcases ds with _ | ⟨d1, _ | ⟨d2, _ | ⟨d3, r⟩⟩⟩ <;> first | rfl | (simp [Try.params6] at h)

theorem wideRoots_holds : Rows.WideRootsSaid :=
  OpenClaim.holds_of_wide 6 Try.f6 rfl rfl rfl rfl rfl rfl rfl ⟨rfl, rfl, rfl, rfl, rfl⟩ rfl rfl rfl rfl rfl (by kernel_rfl) Try.func6 (by kernel_rfl)
    (of_decide_eq_true (by kernel_rfl)) (by unfold Func.isWrapper; first | (rw [if_pos (by decide +kernel)]; kernel_rfl) | (rw [if_neg (by decide +kernel)]; exact ⟨rfl, rfl⟩))
    (fun os started H enc _ => wideRoots_lifted os started H enc)

theorem ok_WideBack : ∀ xs, okArgsS [(true, .st [.it .u64, .it .u64]), (false, .it .u64)] xs → Meets Try.prog E0 n_law01_WideBack xs [] (Bo true) [] := by
  intro xs h
  simp [okArgsS, okS, okSs] at h
  obtain ⟨_, _, rfl, ⟨_, _, rfl, ⟨i, rfl, hi⟩, j, rfl, hj⟩, _, rfl, k, rfl, hk⟩ := h
  obtain ⟨x, hx, rfl⟩ := u64_wf hi
  obtain ⟨y, hy, rfl⟩ := u64_wf hj
  obtain ⟨z, hz, rfl⟩ := u64_wf hk
  obtain ⟨a, ha, ea⟩ := wv_of hx hy
  have := f_law01_WideBack a z ha hz
  rw [ea] at this
  exact this

set_option maxRecDepth 100000 in
theorem wideBack_lifted (os : Os) (started : os.Started) (H : Type) (enc : TypeId × Value → H) :
    ReturnsInHanded {} Try.checked os 7 .any (Rows.wideBackSpec.pre6 enc Try.prog Try.f7 Rows.wideBackRow.domain false) (Rows.wideBackSpec.post enc Try.prog Try.f7 false true false false) := by
  refine returnsInHanded_of_change (C := Try.checked) Try.own started (by kernel_rfl) Try.func7
    (ChangeSpec.witness6 (enc := enc) (C := Try.checked) false ⟨#[], #[.agg #[.int .u64 0, .int .u64 0], .int .u64 0], []⟩ 8 (by kernel_rfl) (by kernel_rfl) (by kernel_rfl) (by kernel_rfl)) ?_
  intro W base args ds gs before hval hW hcnd _
  refine law_post2 (E := E0) (m := 8) (ss := [(true, .st [.it .u64, .it .u64]), (false, .it .u64)]) Try.laidOut (by kernel_rfl) Try.func7 trivial (fun b h => h.elim) rfl rfl (by kernel_rfl) ?_ (by kernel_rfl) (by kernel_rfl) hval hW ok_WideBack
  intro ds h
  rcases ds with _ | ⟨d1, _ | ⟨d2, _ | ⟨d3, r⟩⟩⟩ <;> first | rfl | (simp [Try.params7] at h)

theorem wideBack_holds : Rows.WideBackSaid :=
  OpenClaim.holds_of_wide 7 Try.f7 rfl rfl rfl rfl rfl rfl rfl ⟨rfl, rfl, rfl, rfl, rfl⟩ rfl rfl rfl rfl rfl (by kernel_rfl) Try.func7 (by kernel_rfl)
    (of_decide_eq_true (by kernel_rfl)) (by unfold Func.isWrapper; first | (rw [if_pos (by decide +kernel)]; kernel_rfl) | (rw [if_neg (by decide +kernel)]; exact ⟨rfl, rfl⟩))
    (fun os started H enc _ => wideBack_lifted os started H enc)

end Go.Proofs.Ytolfdpklblepfaa
