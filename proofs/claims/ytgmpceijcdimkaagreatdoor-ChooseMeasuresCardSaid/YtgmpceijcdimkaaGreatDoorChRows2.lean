/- The row and the card on measures, proved: whatever the input, where the listed variables hold what the program's text lays. -/
import Derived.Test.YtgmpceijcdimkaaGreatDoorPkE
import Derived.Test.YtgmpceijcdimkaaGreatDoorSxTab
import Derived.ProofKit
import Derived.WalkKit
import Derived.OpenShut
import Derived.Deep.DeepHandedRow
import Derived.Deep.DeepWitnessRowRef
import Derived.Lib.LaidTab
set_option linter.unusedSimpArgs false
set_option linter.unusedVariables false
namespace Go.Proofs.YtgmpceijcdimkaaGreatDoor
open Go Go.Sx Go.ChangeShapes Go.WideShapes Go.ChangeAt Go.RowKit

theorem ok_ChooseMeasures : ∀ xs, okArgsS [(false, .str), (true, .st [.str, .it .i64, .it .i64, .sl 2 (.st [.bo, .it .i64])])] xs → Meets Tryz.prog E0 n_law27_ChooseMeasures xs [] (Bo true) [] := by
  intro xs h
  simp only [okArgsS, if_true, if_false, Bool.false_eq_true] at h
  obtain ⟨cs, _, rfl, hc, ds, _, rfl, hd, rfl⟩ := h
  rw [okS] at hc
  obtain ⟨s, rfl, _⟩ := hc
  obtain ⟨x, rfl, _, hx⟩ := ser_of hd
  have := f_law27_ChooseMeasures s.data.toList x hx
  rw [toB_selfC] at this
  exact this

theorem chooseMeasures_gi {W : World} (hL0 : laidMetH Tryz.prog Rows.chooseMeasuresRow.laid W) : E0.gi W := by
  have hL : laidMet Tryz.prog Rows.chooseMeasuresRow.laid W := laid_plain (by kernel_rfl) hL0
  refine ⟨fun p hp => ?_, fun g hg => ?_⟩
  · simp [tabs0] at hp
  · simp [ifs0] at hg

theorem chooseMeasures_laid (os : Os) (args : Array Value) : laidMet Tryz.prog Rows.chooseMeasuresRow.laid ((laidWorld os).forCall (fun _ _ => 0) ⟨#[], args, []⟩).memory :=
  laidMet_of_run' 8 (by kernel_rfl) (by kernel_rfl)

theorem chooseMeasures_reads (os : Os) {H : Type} (enc : TypeId × Value → H) : (OpenSpec.ofChange Rows.chooseMeasuresSpec).preRow enc Tryz.prog Tryz.f4 Rows.chooseMeasuresRow.domain false Rows.chooseMeasuresRow.laid ((laidWorld os).forCall (fun _ _ => 0) ⟨#[], #[.string ⟨#[]⟩, .agg #[.string ⟨#[]⟩, .int .i64 0, .int .i64 0, .slice none 0 0]], []⟩).memory #[.string ⟨#[]⟩, .agg #[.string ⟨#[]⟩, .int .i64 0, .int .i64 0, .slice none 0 0]] := by
  have hw : (DataW.whole enc Tryz.prog ((laidWorld os).forCall (fun _ _ => 0) ⟨#[], #[.string ⟨#[]⟩, .agg #[.string ⟨#[]⟩, .int .i64 0, .int .i64 0, .slice none 0 0]], []⟩).memory Tryz.f4.params.toList Rows.chooseMeasuresSpec.vars false (#[.string ⟨#[]⟩, .agg #[.string ⟨#[]⟩, .int .i64 0, .int .i64 0, .slice none 0 0]] : Array Value).toList 8).map (fun x => (x.1, x.2.1)) = some ([.lit (.string []), .agg [.lit (.string []), .lit (.int .i64 0), .lit (.int .i64 0), .nil]], []) := by kernel_rfl
  obtain ⟨⟨x1, x2, x3⟩, hx, hx1⟩ := Option.map_eq_some_iff.1 hw
  simp only [Prod.mk.injEq] at hx1
  obtain ⟨rfl, rfl⟩ := hx1
  exact OpenSpec.preRow_of_cond 8 hx (by kernel_rfl) (fun k hk => by cases hk) (by kernel_rfl) (chooseMeasures_laid os _)

set_option maxRecDepth 100000 in
theorem chooseMeasures_lifted (os : Os) (started : os.Started) (H : Type) (enc : TypeId × Value → H) (F : Stop.Interp) :
    ReturnsInHanded {} Tryz.checked os 4 .any ((OpenSpec.ofChange Rows.chooseMeasuresSpec).preRow enc Tryz.prog Tryz.f4 Rows.chooseMeasuresRow.domain false Rows.chooseMeasuresRow.laid) (((OpenSpec.ofChange Rows.chooseMeasuresSpec).at F).post enc Tryz.prog Tryz.f4 false true false false) := by
  refine returnsInHanded_of_row (C := Tryz.checked) (s := OpenSpec.ofChange Rows.chooseMeasuresSpec) Tryz.own started (by kernel_rfl) Tryz.func4
    (witness_row_atRef (enc := enc) (C := Tryz.checked) false (laidWorld os) #[.string ⟨#[]⟩, .agg #[.string ⟨#[]⟩, .int .i64 0, .int .i64 0, .slice none 0 0]] rfl (by kernel_rfl) (by kernel_rfl) (by kernel_rfl) (chooseMeasures_reads os enc)) ?_
  intro W base args ds gs before hval hW _ _ hwt hL _ _
  refine law_post2 (s := Rows.chooseMeasuresSpec) (E := E0) (m := 8) (ss := [(false, .str), (true, .st [.str, .it .i64, .it .i64, .sl 2 (.st [.bo, .it .i64])])]) Tryz.laidOut (by kernel_rfl) Tryz.func4 (chooseMeasures_gi hL) (gb_lt (chooseMeasures_gi hL)) rfl rfl (by kernel_rfl) ?_ (by kernel_rfl) (by kernel_rfl) hval hW hwt ok_ChooseMeasures
  intro ds h
  rcases ds with _ | ⟨d1, _ | ⟨d2, _ | ⟨d3, r⟩⟩⟩ <;> first | rfl | (simp [Tryz.params4] at h)

theorem chooseMeasures_said : Rows.ChooseMeasuresSaid :=
  OpenClaim.holds_of_cond 4 Tryz.f4 rfl rfl rfl rfl rfl rfl rfl ⟨rfl, rfl, rfl, rfl, rfl⟩ rfl rfl rfl rfl rfl (by kernel_rfl) Tryz.func4 (by kernel_rfl)
    (of_decide_eq_true (by kernel_rfl)) (by unfold Func.isWrapper; first | (rw [if_pos (by decide +kernel)]; kernel_rfl) | (rw [if_neg (by decide +kernel)]; exact ⟨rfl, rfl⟩))
    (fun os started H enc _ F => by rw [OpenClaim.pre_eq_preRow]; exact chooseMeasures_lifted os started H enc F)

theorem chooseMeasures_plain (f : FuncId) (fn : Func) (hf : Tryz.pinned.checked.prog.funcNamed Rows.chooseMeasuresRow.func = some f) (hfn : Tryz.pinned.checked.prog.funcs[f]? = some fn) :
    false = Tryz.pinned.checked.prog.looks [] ∧ ∀ (j : Nat) t, fn.params[j]? = some t → Tryz.pinned.checked.prog.wantsStandIn t = false := by
  obtain rfl : f = 4 := Option.some.inj ((show Tryz.prog.funcNamed Rows.chooseMeasuresRow.func = some 4 by kernel_rfl).symm.trans hf) |>.symm
  obtain rfl : fn = Tryz.f4 := (Option.some.inj (Tryz.func4.symm.trans hfn)).symm
  refine ⟨by kernel_rfl, fun j t ht => ?_⟩
  have hall : Tryz.f4.params.all (fun t => !Tryz.prog.wantsStandIn t) = true := by kernel_rfl
  have := Array.all_eq_true_iff_forall_mem.1 hall t (Array.mem_of_getElem? ht)
  show Tryz.prog.wantsStandIn t = false
  simpa using this

theorem chooseMeasures_card : Rows.ChooseMeasuresCardSaid :=
  Claim7.holds_tied_plain_at .later [] _ _ _ _ chooseMeasures_said (fun _ h => by cases h) (by kernel_rfl) (fun _ h => by cases h) chooseMeasures_row_tie rfl ⟨rfl, rfl⟩ (by kernel_rfl) rfl chooseMeasures_plain (by kernel_rfl)

end Go.Proofs.YtgmpceijcdimkaaGreatDoor
