/- The rows on patterns, proved, each under its condition: whatever the input. -/
import Derived.Test.YtgnokggmbkhnbaaNdLit
import Derived.Test.YtgnokggmbkhnbaaRowBase
import Derived.ProofKit
set_option linter.unusedSimpArgs false
set_option linter.unusedVariables false
namespace Go.Proofs.Ytgnokggmbkhnbaa
open Go Go.Sx Go.ChangeShapes Go.WideShapes Go.ChangeAt Go.RowKit

theorem item_of_words {x y z u : Nat} (hx : x < 18446744073709551616) (hy : y < 18446744073709551616) (hz : z < 18446744073709551616) (hu : u < 18446744073709551616) (b : Bool) : ∃ i : Item, i.1 < 2 ^ 256 ∧ itemT i = [.v (.int .u64 (x : Int)), .v (.int .u64 (y : Int)), .v (.int .u64 (z : Int)), .v (.int .u64 (u : Int)), .v (.bool b)] := by
  refine ⟨(x + 18446744073709551616 * (y + 18446744073709551616 * (z + 18446744073709551616 * u)), b), by simp only; omega, ?_⟩
  simp only [itemT]
  rw [show (x + 18446744073709551616 * (y + 18446744073709551616 * (z + 18446744073709551616 * u))) % 18446744073709551616 = x by omega, show (x + 18446744073709551616 * (y + 18446744073709551616 * (z + 18446744073709551616 * u))) / 18446744073709551616 % 18446744073709551616 = y by omega, show (x + 18446744073709551616 * (y + 18446744073709551616 * (z + 18446744073709551616 * u))) / 340282366920938463463374607431768211456 % 18446744073709551616 = z by omega, show (x + 18446744073709551616 * (y + 18446744073709551616 * (z + 18446744073709551616 * u))) / (18446744073709551616 * 340282366920938463463374607431768211456) % 18446744073709551616 = u by omega]

theorem items_of {es : List (List T)} (h : ∀ c ∈ es, okSs [.st [.it .u64, .it .u64, .it .u64, .it .u64], .bo] c) : ∃ l : List Item, es = l.map itemT ∧ ∀ i ∈ l, i.1 < 2 ^ 256 := by
  induction es with
  | nil => exact ⟨[], rfl, by simp⟩
  | cons e es ih =>
    obtain ⟨l, rfl, hl⟩ := ih (fun c hc => h c (by simp [hc]))
    have he := h e (by simp)
    simp only [okSs, okS] at he
    obtain ⟨_, _, rfl, ⟨_, _, rfl, ⟨i, rfl, hi⟩, _, _, rfl, ⟨j, rfl, hj⟩, _, _, rfl, ⟨k, rfl, hk⟩, _, _, rfl, ⟨m, rfl, hm⟩, rfl⟩, _, _, rfl, ⟨b, rfl⟩, rfl⟩ := he
    obtain ⟨x, hx, rfl⟩ := u64_wf hi
    obtain ⟨y, hy, rfl⟩ := u64_wf hj
    obtain ⟨z, hz, rfl⟩ := u64_wf hk
    obtain ⟨u, hu, rfl⟩ := u64_wf hm
    obtain ⟨i, hi, ei⟩ := item_of_words hx hy hz hu b
    refine ⟨i :: l, by simp [ei], ?_⟩
    intro s hs
    rcases List.mem_cons.1 hs with rfl | hs
    · exact hi
    · exact hl s hs

theorem needle_arg {cs : List T} (h : okSs [.bo, .bo, .sl 5 (.st [.st [.it .u64, .it .u64, .it .u64, .it .u64], .bo])] cs) : ∃ a z l, AV.ag (cs.map .t) = needleV a z l ∧ ∀ i ∈ l, i.1 < 2 ^ 256 := by
  simp only [okSs, okS] at h
  obtain ⟨_, _, rfl, ⟨a, rfl⟩, _, _, rfl, ⟨z, rfl⟩, _, _, rfl, ⟨es, rfl, _, he⟩, rfl⟩ := h
  obtain ⟨l, rfl, hl⟩ := items_of (fun c hc => by simpa only [okSs, okS] using he c hc)
  exact ⟨a, z, l, rfl, hl⟩

theorem ok_NeedleFinds : ∀ xs, okArgsS [(true, .st [.bo, .bo, .sl 5 (.st [.st [.it .u64, .it .u64, .it .u64, .it .u64], .bo])]), (false, .str)] xs → Meets Try.prog E0 n_law09_NeedleFinds xs [] (Bo true) [] := by
  intro xs h
  simp only [okArgsS, okS, if_true, if_false, Bool.false_eq_true] at h
  obtain ⟨cs, _, rfl, hr, _, _, rfl, ⟨t, rfl, ht⟩, rfl⟩ := h
  obtain ⟨a, z, l, e, hl⟩ := needle_arg (by simpa only [okSs, okS] using hr)
  rw [e]
  exact f_law09_NeedleFinds a z l t

set_option maxRecDepth 100000 in
theorem needleFinds_lifted (os : Os) (started : os.Started) (H : Type) (enc : TypeId × Value → H) :
    ReturnsInHanded {} Try.checked os 4 .any (Rows.needleFindsSpec.pre6 enc Try.prog Try.f4 Rows.needleFindsRow.domain false) (Rows.needleFindsSpec.post enc Try.prog Try.f4 false true false false) := by
  refine returnsInHanded_of_change (C := Try.checked) Try.own started (by kernel_rfl) Try.func4
    (ChangeSpec.witness6 (enc := enc) (C := Try.checked) false ⟨#[], #[.agg #[.bool false, .bool false, .slice none 0 0], .string ⟨#[]⟩], []⟩ 8 (by kernel_rfl) (by kernel_rfl) (by kernel_rfl) (by kernel_rfl)) ?_
  intro W base args ds gs before hval hW hcnd _
  refine law_post2 (E := E0) (m := 8) (ss := [(true, .st [.bo, .bo, .sl 5 (.st [.st [.it .u64, .it .u64, .it .u64, .it .u64], .bo])]), (false, .str)]) Try.laidOut (by kernel_rfl) Try.func4 trivial (fun b h => h.elim) rfl rfl (by kernel_rfl) ?_ (by kernel_rfl) (by kernel_rfl) hval hW ok_NeedleFinds
  intro ds h
  rcases ds with _ | ⟨d1, _ | ⟨d2, _ | ⟨d3, r⟩⟩⟩ <;> first | rfl | (simp [Try.params4] at h)

theorem needleFinds_holds : Rows.NeedleFindsSaid :=
  OpenClaim.holds_of_wide 4 Try.f4 rfl rfl rfl rfl rfl rfl rfl ⟨rfl, rfl, rfl, rfl, rfl⟩ rfl rfl rfl rfl rfl (by kernel_rfl) Try.func4 (by kernel_rfl)
    (of_decide_eq_true (by kernel_rfl)) (by unfold Func.isWrapper; first | (rw [if_pos (by decide +kernel)]; kernel_rfl) | (rw [if_neg (by decide +kernel)]; exact ⟨rfl, rfl⟩))
    (fun os started H enc _ => needleFinds_lifted os started H enc)

theorem ok_NeedleStar : ∀ xs, okArgsS [(false, .str), (false, .bo), (false, .bo)] xs → Meets Try.prog E0 n_law09_NeedleStar xs [] (Bo true) [] := by
  intro xs h
  simp only [okArgsS, okS, if_false, Bool.false_eq_true] at h
  obtain ⟨_, _, rfl, ⟨p, rfl, hp⟩, _, _, rfl, ⟨a, rfl⟩, _, _, rfl, ⟨z, rfl⟩, rfl⟩ := h
  exact f_law09_NeedleStar p a z

set_option maxRecDepth 100000 in
theorem needleStar_lifted (os : Os) (started : os.Started) (H : Type) (enc : TypeId × Value → H) :
    ReturnsInHanded {} Try.checked os 8 .any (Rows.needleStarSpec.pre6 enc Try.prog Try.f8 Rows.needleStarRow.domain false) (Rows.needleStarSpec.post enc Try.prog Try.f8 false true false false) := by
  refine returnsInHanded_of_change (C := Try.checked) Try.own started (by kernel_rfl) Try.func8
    (ChangeSpec.witness6 (enc := enc) (C := Try.checked) false ⟨#[], #[.string ⟨#[]⟩, .bool false, .bool false], []⟩ 8 (by kernel_rfl) (by kernel_rfl) (by kernel_rfl) (by kernel_rfl)) ?_
  intro W base args ds gs before hval hW hcnd _
  refine law_post2 (E := E0) (m := 8) (ss := [(false, .str), (false, .bo), (false, .bo)]) Try.laidOut (by kernel_rfl) Try.func8 trivial (fun b h => h.elim) rfl rfl (by kernel_rfl) ?_ (by kernel_rfl) (by kernel_rfl) hval hW ok_NeedleStar
  intro ds h
  rcases ds with _ | ⟨d1, _ | ⟨d2, _ | ⟨d3, _ | ⟨d4, r⟩⟩⟩⟩ <;> first | rfl | (simp [Try.params8] at h)

theorem needleStar_holds : Rows.NeedleStarSaid :=
  OpenClaim.holds_of_wide 8 Try.f8 rfl rfl rfl rfl rfl rfl rfl ⟨rfl, rfl, rfl, rfl, rfl⟩ rfl rfl rfl rfl rfl (by kernel_rfl) Try.func8 (by kernel_rfl)
    (of_decide_eq_true (by kernel_rfl)) (by unfold Func.isWrapper; first | (rw [if_pos (by decide +kernel)]; kernel_rfl) | (rw [if_neg (by decide +kernel)]; exact ⟨rfl, rfl⟩))
    (fun os started H enc _ => needleStar_lifted os started H enc)

theorem ok_NeedleMore : ∀ xs, okArgsS [(true, .st [.bo, .bo, .sl 5 (.st [.st [.it .u64, .it .u64, .it .u64, .it .u64], .bo])]), (false, .str), (false, .str)] xs → Meets Try.prog E0 n_law09_NeedleMore xs [] (Bo true) [] := by
  intro xs h
  simp only [okArgsS, okS, if_true, if_false, Bool.false_eq_true] at h
  obtain ⟨cs, _, rfl, hr, _, _, rfl, ⟨t, rfl, ht⟩, _, _, rfl, ⟨u, rfl, hu⟩, rfl⟩ := h
  obtain ⟨a, z, l, e, hl⟩ := needle_arg (by simpa only [okSs, okS] using hr)
  rw [e]
  exact f_law09_NeedleMore a z l t u

set_option maxRecDepth 100000 in
theorem needleMore_lifted (os : Os) (started : os.Started) (H : Type) (enc : TypeId × Value → H) :
    ReturnsInHanded {} Try.checked os 7 .any (Rows.needleMoreSpec.pre6 enc Try.prog Try.f7 Rows.needleMoreRow.domain false) (Rows.needleMoreSpec.post enc Try.prog Try.f7 false true false false) := by
  refine returnsInHanded_of_change (C := Try.checked) Try.own started (by kernel_rfl) Try.func7
    (ChangeSpec.witness6 (enc := enc) (C := Try.checked) false ⟨#[], #[.agg #[.bool false, .bool false, .slice none 0 0], .string ⟨#[]⟩, .string ⟨#[]⟩], []⟩ 8 (by kernel_rfl) (by kernel_rfl) (by kernel_rfl) (by kernel_rfl)) ?_
  intro W base args ds gs before hval hW hcnd _
  refine law_post2 (E := E0) (m := 8) (ss := [(true, .st [.bo, .bo, .sl 5 (.st [.st [.it .u64, .it .u64, .it .u64, .it .u64], .bo])]), (false, .str), (false, .str)]) Try.laidOut (by kernel_rfl) Try.func7 trivial (fun b h => h.elim) rfl rfl (by kernel_rfl) ?_ (by kernel_rfl) (by kernel_rfl) hval hW ok_NeedleMore
  intro ds h
  rcases ds with _ | ⟨d1, _ | ⟨d2, _ | ⟨d3, _ | ⟨d4, r⟩⟩⟩⟩ <;> first | rfl | (simp [Try.params7] at h)

theorem needleMore_holds : Rows.NeedleMoreSaid :=
  OpenClaim.holds_of_wide 7 Try.f7 rfl rfl rfl rfl rfl rfl rfl ⟨rfl, rfl, rfl, rfl, rfl⟩ rfl rfl rfl rfl rfl (by kernel_rfl) Try.func7 (by kernel_rfl)
    (of_decide_eq_true (by kernel_rfl)) (by unfold Func.isWrapper; first | (rw [if_pos (by decide +kernel)]; kernel_rfl) | (rw [if_neg (by decide +kernel)]; exact ⟨rfl, rfl⟩))
    (fun os started H enc _ => needleMore_lifted os started H enc)

theorem ok_NeedleLiteral : ∀ xs, okArgsS [(false, .str), (false, .str)] xs → Meets Try.prog E0 n_law09_NeedleLiteral xs [] (Bo true) [] := by
  intro xs h
  simp only [okArgsS, okS, if_false, Bool.false_eq_true] at h
  obtain ⟨_, _, rfl, ⟨p, rfl, hp⟩, _, _, rfl, ⟨t, rfl, ht⟩, rfl⟩ := h
  exact f_law09_NeedleLiteral p t (by simp [maxLen] at hp; omega)

set_option maxRecDepth 100000 in
theorem needleLiteral_lifted (os : Os) (started : os.Started) (H : Type) (enc : TypeId × Value → H) :
    ReturnsInHanded {} Try.checked os 6 .any (Rows.needleLiteralSpec.pre6 enc Try.prog Try.f6 Rows.needleLiteralRow.domain false) (Rows.needleLiteralSpec.post enc Try.prog Try.f6 false true false false) := by
  refine returnsInHanded_of_change (C := Try.checked) Try.own started (by kernel_rfl) Try.func6
    (ChangeSpec.witness6 (enc := enc) (C := Try.checked) false ⟨#[], #[.string ⟨#[]⟩, .string ⟨#[]⟩], []⟩ 8 (by kernel_rfl) (by kernel_rfl) (by kernel_rfl) (by kernel_rfl)) ?_
  intro W base args ds gs before hval hW hcnd _
  refine law_post2 (E := E0) (m := 8) (ss := [(false, .str), (false, .str)]) Try.laidOut (by kernel_rfl) Try.func6 trivial (fun b h => h.elim) rfl rfl (by kernel_rfl) ?_ (by kernel_rfl) (by kernel_rfl) hval hW ok_NeedleLiteral
  intro ds h
  rcases ds with _ | ⟨d1, _ | ⟨d2, _ | ⟨d3, r⟩⟩⟩ <;> first | rfl | (simp [Try.params6] at h)

theorem needleLiteral_holds : Rows.NeedleLiteralSaid :=
  OpenClaim.holds_of_wide 6 Try.f6 rfl rfl rfl rfl rfl rfl rfl ⟨rfl, rfl, rfl, rfl, rfl⟩ rfl rfl rfl rfl rfl (by kernel_rfl) Try.func6 (by kernel_rfl)
    (of_decide_eq_true (by kernel_rfl)) (by unfold Func.isWrapper; first | (rw [if_pos (by decide +kernel)]; kernel_rfl) | (rw [if_neg (by decide +kernel)]; exact ⟨rfl, rfl⟩))
    (fun os started H enc _ => needleLiteral_lifted os started H enc)

end Go.Proofs.Ytgnokggmbkhnbaa
