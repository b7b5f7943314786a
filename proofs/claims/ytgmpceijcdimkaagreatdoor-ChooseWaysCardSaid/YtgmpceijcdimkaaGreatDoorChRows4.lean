/- The row and the card on ways, proved: whatever the input, where the listed variables hold what the program's text lays. -/
import Derived.Test.YtgmpceijcdimkaaGreatDoorPkE
import Derived.Test.YtgmpceijcdimkaaGreatDoorSxTab
import Derived.ProofKit
import Derived.WalkKit
import Derived.OpenShut
import Derived.Deep.DeepHandedRow
import Derived.Deep.DeepWitnessRowRef
import Derived.Lib.LaidTab
set_option linter.unusedSimpArgs false
set_option linter.unusedVariables false
namespace Go.Proofs.YtgmpceijcdimkaaGreatDoor
open Go Go.Sx Go.ChangeShapes Go.WideShapes Go.ChangeAt Go.RowKit

theorem ok_ChooseWays : ∀ xs, okArgsS [(false, .sl 4 (.st [.str, .it .i64, .it .i64, .sl 2 (.st [.bo, .it .i64])])), (false, .str), (true, .st [.bo, .it .i64])] xs → Meets Tryz.prog E0 n_law27_ChooseWays xs [] (Bo true) [] := by
  intro xs h
  simp only [okArgsS, if_true, if_false, Bool.false_eq_true] at h
  obtain ⟨ds, _, rfl, hd, cs, _, rfl, hc, es, _, rfl, he, rfl⟩ := h
  obtain ⟨l, rfl, h3, h4⟩ := list_of hd
  rw [okS] at hc
  obtain ⟨s, rfl, _⟩ := hc
  obtain ⟨v, rfl, hv⟩ := num_of he
  have := f_law27_ChooseWays l s.data.toList v (by omega) h4 hv
  rw [toB_selfC] at this
  exact this

theorem chooseWays_gi {W : World} (hL0 : laidMetH Tryz.prog Rows.chooseWaysRow.laid W) : E0.gi W := by
  have hL : laidMet Tryz.prog Rows.chooseWaysRow.laid W := laid_plain (by kernel_rfl) hL0
  refine ⟨fun p hp => ?_, fun g hg => ?_⟩
  · simp [tabs0] at hp
  · simp [ifs0] at hg

theorem chooseWays_laid (os : Os) (args : Array Value) : laidMet Tryz.prog Rows.chooseWaysRow.laid ((laidWorld os).forCall (fun _ _ => 0) ⟨#[], args, []⟩).memory :=
  laidMet_of_run' 8 (by kernel_rfl) (by kernel_rfl)

theorem chooseWays_reads (os : Os) {H : Type} (enc : TypeId × Value → H) : (OpenSpec.ofChange Rows.chooseWaysSpec).preRow enc Tryz.prog Tryz.f6 Rows.chooseWaysRow.domain false Rows.chooseWaysRow.laid ((laidWorld os).forCall (fun _ _ => 0) ⟨#[], #[.slice none 0 0, .string ⟨#[]⟩, .agg #[.bool false, .int .i64 0]], []⟩).memory #[.slice none 0 0, .string ⟨#[]⟩, .agg #[.bool false, .int .i64 0]] := by
  have hw : (DataW.whole enc Tryz.prog ((laidWorld os).forCall (fun _ _ => 0) ⟨#[], #[.slice none 0 0, .string ⟨#[]⟩, .agg #[.bool false, .int .i64 0]], []⟩).memory Tryz.f6.params.toList Rows.chooseWaysSpec.vars false (#[.slice none 0 0, .string ⟨#[]⟩, .agg #[.bool false, .int .i64 0]] : Array Value).toList 8).map (fun x => (x.1, x.2.1)) = some ([.nil, .lit (.string []), .agg [.lit (.bool false), .lit (.int .i64 0)]], []) := by kernel_rfl
  obtain ⟨⟨x1, x2, x3⟩, hx, hx1⟩ := Option.map_eq_some_iff.1 hw
  simp only [Prod.mk.injEq] at hx1
  obtain ⟨rfl, rfl⟩ := hx1
  exact OpenSpec.preRow_of_cond 8 hx (by kernel_rfl) (fun k hk => by cases hk) (by kernel_rfl) (chooseWays_laid os _)

set_option maxRecDepth 100000 in
theorem chooseWays_lifted (os : Os) (started : os.Started) (H : Type) (enc : TypeId × Value → H) (F : Stop.Interp) :
    ReturnsInHanded {} Tryz.checked os 6 .any ((OpenSpec.ofChange Rows.chooseWaysSpec).preRow enc Tryz.prog Tryz.f6 Rows.chooseWaysRow.domain false Rows.chooseWaysRow.laid) (((OpenSpec.ofChange Rows.chooseWaysSpec).at F).post enc Tryz.prog Tryz.f6 false true false false) := by
  refine returnsInHanded_of_row (C := Tryz.checked) (s := OpenSpec.ofChange Rows.chooseWaysSpec) Tryz.own started (by kernel_rfl) Tryz.func6
    (witness_row_atRef (enc := enc) (C := Tryz.checked) false (laidWorld os) #[.slice none 0 0, .string ⟨#[]⟩, .agg #[.bool false, .int .i64 0]] rfl (by kernel_rfl) (by kernel_rfl) (by kernel_rfl) (chooseWays_reads os enc)) ?_
  intro W base args ds gs before hval hW _ _ hwt hL _ _
  refine law_post2 (s := Rows.chooseWaysSpec) (E := E0) (m := 8) (ss := [(false, .sl 4 (.st [.str, .it .i64, .it .i64, .sl 2 (.st [.bo, .it .i64])])), (false, .str), (true, .st [.bo, .it .i64])]) Tryz.laidOut (by kernel_rfl) Tryz.func6 (chooseWays_gi hL) (gb_lt (chooseWays_gi hL)) rfl rfl (by kernel_rfl) ?_ (by kernel_rfl) (by kernel_rfl) hval hW hwt ok_ChooseWays
  intro ds h
  rcases ds with _ | ⟨d1, _ | ⟨d2, _ | ⟨d3, _ | ⟨d4, r⟩⟩⟩⟩ <;> first | rfl | (simp [Tryz.params6] at h)

theorem chooseWays_said : Rows.ChooseWaysSaid :=
  OpenClaim.holds_of_cond 6 Tryz.f6 rfl rfl rfl rfl rfl rfl rfl ⟨rfl, rfl, rfl, rfl, rfl⟩ rfl rfl rfl rfl rfl (by kernel_rfl) Tryz.func6 (by kernel_rfl)
    (of_decide_eq_true (by kernel_rfl)) (by unfold Func.isWrapper; first | (rw [if_pos (by decide +kernel)]; kernel_rfl) | (rw [if_neg (by decide +kernel)]; exact ⟨rfl, rfl⟩))
    (fun os started H enc _ F => by rw [OpenClaim.pre_eq_preRow]; exact chooseWays_lifted os started H enc F)

theorem chooseWays_plain (f : FuncId) (fn : Func) (hf : Tryz.pinned.checked.prog.funcNamed Rows.chooseWaysRow.func = some f) (hfn : Tryz.pinned.checked.prog.funcs[f]? = some fn) :
    false = Tryz.pinned.checked.prog.looks [] ∧ ∀ (j : Nat) t, fn.params[j]? = some t → Tryz.pinned.checked.prog.wantsStandIn t = false := by
  obtain rfl : f = 6 := Option.some.inj ((show Tryz.prog.funcNamed Rows.chooseWaysRow.func = some 6 by kernel_rfl).symm.trans hf) |>.symm
  obtain rfl : fn = Tryz.f6 := (Option.some.inj (Tryz.func6.symm.trans hfn)).symm
  refine ⟨by kernel_rfl, fun j t ht => ?_⟩
  have hall : Tryz.f6.params.all (fun t => !Tryz.prog.wantsStandIn t) = true := by kernel_rfl
  have := Array.all_eq_true_iff_forall_mem.1 hall t (Array.mem_of_getElem? ht)
  show Tryz.prog.wantsStandIn t = false
  simpa using this

theorem chooseWays_card : Rows.ChooseWaysCardSaid :=
  Claim7.holds_tied_plain_at .later [] _ _ _ _ chooseWays_said (fun _ h => by cases h) (by kernel_rfl) (fun _ h => by cases h) chooseWays_row_tie rfl ⟨rfl, rfl⟩ (by kernel_rfl) rfl chooseWays_plain (by kernel_rfl)

end Go.Proofs.YtgmpceijcdimkaaGreatDoor
