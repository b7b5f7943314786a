/- The row and the card on what is answered of a list, proved: whatever the input, where the listed variables hold what the program's text lays. -/
import Derived.Test.YtgmpceijcdimkaaGreatDoorPkE
import Derived.Test.YtgmpceijcdimkaaGreatDoorSxTab
import Derived.ProofKit
import Derived.WalkKit
import Derived.OpenShut
import Derived.Deep.DeepHandedRow
import Derived.Deep.DeepWitnessRowRef
import Derived.Lib.LaidTab
set_option linter.unusedSimpArgs false
set_option linter.unusedVariables false
namespace Go.Proofs.YtgmpceijcdimkaaGreatDoor
open Go Go.Sx Go.ChangeShapes Go.WideShapes Go.ChangeAt Go.RowKit

theorem ok_ChooseOf : ∀ xs, okArgsS [(true, .st [.str, .sl 2 (.st [.bo, .it .i64]), .str]), (false, .sl 4 (.st [.str, .it .i64, .it .i64, .sl 2 (.st [.bo, .it .i64])]))] xs → Meets Tryz.prog E0 n_law27_ChooseOf xs [] (Bo true) [] := by
  intro xs h
  simp only [okArgsS, if_true, if_false, Bool.false_eq_true] at h
  obtain ⟨cs, _, rfl, hc, ds, _, rfl, hd, rfl⟩ := h
  obtain ⟨w, t, a, e, h1, h2⟩ := call_of hc
  obtain ⟨l, e2, h3, h4⟩ := list_of hd
  rw [e, e2]
  exact f_law27_ChooseOf w t a l (by omega) h1 h4 h2

theorem chooseOf_gi {W : World} (hL0 : laidMetH Tryz.prog Rows.chooseOfRow.laid W) : E0.gi W := by
  have hL : laidMet Tryz.prog Rows.chooseOfRow.laid W := laid_plain (by kernel_rfl) hL0
  refine ⟨fun p hp => ?_, fun g hg => ?_⟩
  · simp [tabs0] at hp
  · simp [ifs0] at hg

theorem chooseOf_laid (os : Os) (args : Array Value) : laidMet Tryz.prog Rows.chooseOfRow.laid ((laidWorld os).forCall (fun _ _ => 0) ⟨#[], args, []⟩).memory :=
  laidMet_of_run' 8 (by kernel_rfl) (by kernel_rfl)

theorem chooseOf_reads (os : Os) {H : Type} (enc : TypeId × Value → H) : (OpenSpec.ofChange Rows.chooseOfSpec).preRow enc Tryz.prog Tryz.f5 Rows.chooseOfRow.domain false Rows.chooseOfRow.laid ((laidWorld os).forCall (fun _ _ => 0) ⟨#[], #[.agg #[.string ⟨#[]⟩, .slice none 0 0, .string ⟨#[]⟩], .slice none 0 0], []⟩).memory #[.agg #[.string ⟨#[]⟩, .slice none 0 0, .string ⟨#[]⟩], .slice none 0 0] := by
  have hw : (DataW.whole enc Tryz.prog ((laidWorld os).forCall (fun _ _ => 0) ⟨#[], #[.agg #[.string ⟨#[]⟩, .slice none 0 0, .string ⟨#[]⟩], .slice none 0 0], []⟩).memory Tryz.f5.params.toList Rows.chooseOfSpec.vars false (#[.agg #[.string ⟨#[]⟩, .slice none 0 0, .string ⟨#[]⟩], .slice none 0 0] : Array Value).toList 8).map (fun x => (x.1, x.2.1)) = some ([.agg [.lit (.string []), .nil, .lit (.string [])], .nil], []) := by kernel_rfl
  obtain ⟨⟨x1, x2, x3⟩, hx, hx1⟩ := Option.map_eq_some_iff.1 hw
  simp only [Prod.mk.injEq] at hx1
  obtain ⟨rfl, rfl⟩ := hx1
  exact OpenSpec.preRow_of_cond 8 hx (by kernel_rfl) (fun k hk => by cases hk) (by kernel_rfl) (chooseOf_laid os _)

set_option maxRecDepth 100000 in
theorem chooseOf_lifted (os : Os) (started : os.Started) (H : Type) (enc : TypeId × Value → H) (F : Stop.Interp) :
    ReturnsInHanded {} Tryz.checked os 5 .any ((OpenSpec.ofChange Rows.chooseOfSpec).preRow enc Tryz.prog Tryz.f5 Rows.chooseOfRow.domain false Rows.chooseOfRow.laid) (((OpenSpec.ofChange Rows.chooseOfSpec).at F).post enc Tryz.prog Tryz.f5 false true false false) := by
  refine returnsInHanded_of_row (C := Tryz.checked) (s := OpenSpec.ofChange Rows.chooseOfSpec) Tryz.own started (by kernel_rfl) Tryz.func5
    (witness_row_atRef (enc := enc) (C := Tryz.checked) false (laidWorld os) #[.agg #[.string ⟨#[]⟩, .slice none 0 0, .string ⟨#[]⟩], .slice none 0 0] rfl (by kernel_rfl) (by kernel_rfl) (by kernel_rfl) (chooseOf_reads os enc)) ?_
  intro W base args ds gs before hval hW _ _ hwt hL _ _
  refine law_post2 (s := Rows.chooseOfSpec) (E := E0) (m := 8) (ss := [(true, .st [.str, .sl 2 (.st [.bo, .it .i64]), .str]), (false, .sl 4 (.st [.str, .it .i64, .it .i64, .sl 2 (.st [.bo, .it .i64])]))]) Tryz.laidOut (by kernel_rfl) Tryz.func5 (chooseOf_gi hL) (gb_lt (chooseOf_gi hL)) rfl rfl (by kernel_rfl) ?_ (by kernel_rfl) (by kernel_rfl) hval hW hwt ok_ChooseOf
  intro ds h
  rcases ds with _ | ⟨d1, _ | ⟨d2, _ | ⟨d3, r⟩⟩⟩ <;> first | rfl | (simp [Tryz.params5] at h)

theorem chooseOf_said : Rows.ChooseOfSaid :=
  OpenClaim.holds_of_cond 5 Tryz.f5 rfl rfl rfl rfl rfl rfl rfl ⟨rfl, rfl, rfl, rfl, rfl⟩ rfl rfl rfl rfl rfl (by kernel_rfl) Tryz.func5 (by kernel_rfl)
    (of_decide_eq_true (by kernel_rfl)) (by unfold Func.isWrapper; first | (rw [if_pos (by decide +kernel)]; kernel_rfl) | (rw [if_neg (by decide +kernel)]; exact ⟨rfl, rfl⟩))
    (fun os started H enc _ F => by rw [OpenClaim.pre_eq_preRow]; exact chooseOf_lifted os started H enc F)

theorem chooseOf_plain (f : FuncId) (fn : Func) (hf : Tryz.pinned.checked.prog.funcNamed Rows.chooseOfRow.func = some f) (hfn : Tryz.pinned.checked.prog.funcs[f]? = some fn) :
    false = Tryz.pinned.checked.prog.looks [] ∧ ∀ (j : Nat) t, fn.params[j]? = some t → Tryz.pinned.checked.prog.wantsStandIn t = false := by
  obtain rfl : f = 5 := Option.some.inj ((show Tryz.prog.funcNamed Rows.chooseOfRow.func = some 5 by kernel_rfl).symm.trans hf) |>.symm
  obtain rfl : fn = Tryz.f5 := (Option.some.inj (Tryz.func5.symm.trans hfn)).symm
  refine ⟨by kernel_rfl, fun j t ht => ?_⟩
  have hall : Tryz.f5.params.all (fun t => !Tryz.prog.wantsStandIn t) = true := by kernel_rfl
  have := Array.all_eq_true_iff_forall_mem.1 hall t (Array.mem_of_getElem? ht)
  show Tryz.prog.wantsStandIn t = false
  simpa using this

theorem chooseOf_card : Rows.ChooseOfCardSaid :=
  Claim7.holds_tied_plain_at .later [] _ _ _ _ chooseOf_said (fun _ h => by cases h) (by kernel_rfl) (fun _ h => by cases h) chooseOf_row_tie rfl ⟨rfl, rfl⟩ (by kernel_rfl) rfl chooseOf_plain (by kernel_rfl)

end Go.Proofs.YtgmpceijcdimkaaGreatDoor
