/- The rows on patterns that ask the plain compiler, proved: whatever the input. -/
import Derived.Test.YtgnokggmbkhnbaaNdLaw2
import Derived.Test.YtgnokggmbkhnbaaNdRows
import Derived.ProofKit
set_option linter.unusedSimpArgs false
set_option linter.unusedVariables false
namespace Go.Proofs.Ytgnokggmbkhnbaa
open Go Go.Sx Go.ChangeShapes Go.WideShapes Go.ChangeAt Go.RowKit

theorem ok_NeedleMatches : ∀ xs, okArgsS [(false, .str), (false, .str)] xs → Meets Try.prog E0 n_law09_NeedleMatches xs [] (Bo true) [] := by
  intro xs h
  simp only [okArgsS, okS, if_false, Bool.false_eq_true] at h
  obtain ⟨_, _, rfl, ⟨p, rfl, hp⟩, _, _, rfl, ⟨t, rfl, ht⟩, rfl⟩ := h
  exact f_law09_NeedleMatches p t

set_option maxRecDepth 100000 in
theorem needleMatches_lifted (os : Os) (started : os.Started) (H : Type) (enc : TypeId × Value → H) :
    ReturnsInHanded {} Try.checked os 5 .any (Rows.needleMatchesSpec.pre6 enc Try.prog Try.f5 Rows.needleMatchesRow.domain false) (Rows.needleMatchesSpec.post enc Try.prog Try.f5 false true false false) := by
  refine returnsInHanded_of_change (C := Try.checked) Try.own started (by kernel_rfl) Try.func5
    (ChangeSpec.witness6 (enc := enc) (C := Try.checked) false ⟨#[], #[.string ⟨#[]⟩, .string ⟨#[]⟩], []⟩ 8 (by kernel_rfl) (by kernel_rfl) (by kernel_rfl) (by kernel_rfl)) ?_
  intro W base args ds gs before hval hW hcnd _
  refine law_post2 (E := E0) (m := 8) (ss := [(false, .str), (false, .str)]) Try.laidOut (by kernel_rfl) Try.func5 trivial (fun b h => h.elim) rfl rfl (by kernel_rfl) ?_ (by kernel_rfl) (by kernel_rfl) hval hW ok_NeedleMatches
  intro ds h
  rcases ds with _ | ⟨d1, _ | ⟨d2, _ | ⟨d3, r⟩⟩⟩ <;> first | rfl | (simp [Try.params5] at h)

theorem needleMatches_holds : Rows.NeedleMatchesSaid :=
  OpenClaim.holds_of_wide 5 Try.f5 rfl rfl rfl rfl rfl rfl rfl ⟨rfl, rfl, rfl, rfl, rfl⟩ rfl rfl rfl rfl rfl (by kernel_rfl) Try.func5 (by kernel_rfl)
    (of_decide_eq_true (by kernel_rfl)) (by unfold Func.isWrapper; first | (rw [if_pos (by decide +kernel)]; kernel_rfl) | (rw [if_neg (by decide +kernel)]; exact ⟨rfl, rfl⟩))
    (fun os started H enc _ => needleMatches_lifted os started H enc)

theorem ok_NeedleCompiles : ∀ xs, okArgsS [(false, .str), (true, .st [.st [.it .u64, .it .u64, .it .u64, .it .u64], .bo]), (false, .it .u8)] xs → Meets Try.prog E0 n_law09_NeedleCompiles xs [] (Bo true) [] := by
  intro xs h
  simp only [okArgsS, okS, okSs, if_true, if_false, Bool.false_eq_true] at h
  obtain ⟨_, _, rfl, ⟨p, rfl, hp⟩, _, _, rfl, hi, _, _, rfl, ⟨b, rfl, hb⟩, rfl⟩ := h
  obtain ⟨_, _, rfl, ⟨_, _, rfl, ⟨i, rfl, hi⟩, _, _, rfl, ⟨j, rfl, hj⟩, _, _, rfl, ⟨k, rfl, hk⟩, _, _, rfl, ⟨m, rfl, hm⟩, rfl⟩, _, _, rfl, ⟨s, rfl⟩, rfl⟩ := hi
  obtain ⟨x, hx, rfl⟩ := u64_wf hi
  obtain ⟨y, hy, rfl⟩ := u64_wf hj
  obtain ⟨z, hz, rfl⟩ := u64_wf hk
  obtain ⟨u, hu, rfl⟩ := u64_wf hm
  obtain ⟨b, hb2, rfl⟩ := u8_wf hb
  obtain ⟨⟨n, st⟩, hi, ei⟩ := item_of_words hx hy hz hu s
  have := f_law09_NeedleCompiles p n b st hb2
  simp only [itemT] at ei
  injection ei with e1 e2
  injection e2 with e2 e3
  injection e3 with e3 e4
  injection e4 with e4 e5
  injection e5 with e5 e6
  simp only [itemV, setL] at this
  have q : ∀ {a b : T}, a = b → AV.t a = AV.t b := fun h => by rw [h]
  simp only [List.map_cons, List.map_nil, List.cons_append, List.nil_append]
  rw [← q e1, ← q e2, ← q e3, ← q e4, ← q e5]
  exact this

set_option maxRecDepth 100000 in
theorem needleCompiles_lifted (os : Os) (started : os.Started) (H : Type) (enc : TypeId × Value → H) :
    ReturnsInHanded {} Try.checked os 3 .any (Rows.needleCompilesSpec.pre6 enc Try.prog Try.f3 Rows.needleCompilesRow.domain false) (Rows.needleCompilesSpec.post enc Try.prog Try.f3 false true false false) := by
  refine returnsInHanded_of_change (C := Try.checked) Try.own started (by kernel_rfl) Try.func3
    (ChangeSpec.witness6 (enc := enc) (C := Try.checked) false ⟨#[], #[.string ⟨#[]⟩, .agg #[.int .u64 0, .int .u64 0, .int .u64 0, .int .u64 0, .bool false], .int .u8 0], []⟩ 8 (by kernel_rfl) (by kernel_rfl) (by kernel_rfl) (by kernel_rfl)) ?_
  intro W base args ds gs before hval hW hcnd _
  refine law_post2 (E := E0) (m := 8) (ss := [(false, .str), (true, .st [.st [.it .u64, .it .u64, .it .u64, .it .u64], .bo]), (false, .it .u8)]) Try.laidOut (by kernel_rfl) Try.func3 trivial (fun b h => h.elim) rfl rfl (by kernel_rfl) ?_ (by kernel_rfl) (by kernel_rfl) hval hW ok_NeedleCompiles
  intro ds h
  rcases ds with _ | ⟨d1, _ | ⟨d2, _ | ⟨d3, _ | ⟨d4, r⟩⟩⟩⟩ <;> first | rfl | (simp [Try.params3] at h)

theorem needleCompiles_holds : Rows.NeedleCompilesSaid :=
  OpenClaim.holds_of_wide 3 Try.f3 rfl rfl rfl rfl rfl rfl rfl ⟨rfl, rfl, rfl, rfl, rfl⟩ rfl rfl rfl rfl rfl (by kernel_rfl) Try.func3 (by kernel_rfl)
    (of_decide_eq_true (by kernel_rfl)) (by unfold Func.isWrapper; first | (rw [if_pos (by decide +kernel)]; kernel_rfl) | (rw [if_neg (by decide +kernel)]; exact ⟨rfl, rfl⟩))
    (fun os started H enc _ => needleCompiles_lifted os started H enc)

end Go.Proofs.Ytgnokggmbkhnbaa
