/- The row and the card on idle lines, proved: whatever the input, where the listed variables hold what the program's text lays. -/
import Derived.Test.YtbkchhjdjijhkaaDoorCfRow0
import Derived.Test.YtbkchhjdjijhkaaDoorSxTab
import Derived.ProofKit
import Derived.WalkKit
import Derived.OpenShut
import Derived.Deep.DeepHandedRow
import Derived.Deep.DeepWitnessRowRef
import Derived.Lib.LaidTab
set_option linter.unusedSimpArgs false
set_option linter.unusedVariables false
namespace Go.Proofs.YtbkchhjdjijhkaaDoor
open Go Go.Sx Go.ChangeShapes Go.WideShapes Go.ChangeAt Go.RowKit

theorem ok_ConfigIdle : ∀ xs, okArgsS [(false, .str), (false, .it .u8)] xs → Meets Tryd.prog E0 n_law11_ConfigIdle xs [] (Bo true) [] := by
  intro xs h
  simp only [okArgsS, okS, if_false, Bool.false_eq_true] at h
  obtain ⟨_, _, rfl, ⟨s, rfl, _⟩, _, _, rfl, ⟨a, rfl, ha⟩, rfl⟩ := h
  obtain ⟨a, ha2, rfl⟩ := u8_wf ha
  have := f_law11_ConfigIdle s.data.toList a ha2
  rw [toB_self] at this
  exact this

theorem configIdle_gi {W : World} (hL0 : laidMetH Tryd.prog Rows.configIdleRow.laid W) : E0.gi W := by
  have hL : laidMet Tryd.prog Rows.configIdleRow.laid W := laid_plain (by kernel_rfl) hL0
  refine ⟨fun p hp => ?_, fun g hg => ?_⟩
  · simp [tabs0] at hp
  · simp [ifs0] at hg

theorem configIdle_laid (os : Os) (args : Array Value) : laidMet Tryd.prog Rows.configIdleRow.laid ((laidWorld os).forCall (fun _ _ => 0) ⟨#[], args, []⟩).memory :=
  laidMet_of_run' 8 (by kernel_rfl) (by kernel_rfl)

theorem configIdle_reads (os : Os) {H : Type} (enc : TypeId × Value → H) : (OpenSpec.ofChange Rows.configIdleSpec).preRow enc Tryd.prog Tryd.f4 Rows.configIdleRow.domain false Rows.configIdleRow.laid ((laidWorld os).forCall (fun _ _ => 0) ⟨#[], #[.string ⟨#[]⟩, .int .u8 0], []⟩).memory #[.string ⟨#[]⟩, .int .u8 0] := by
  have hw : (DataW.whole enc Tryd.prog ((laidWorld os).forCall (fun _ _ => 0) ⟨#[], #[.string ⟨#[]⟩, .int .u8 0], []⟩).memory Tryd.f4.params.toList Rows.configIdleSpec.vars false (#[.string ⟨#[]⟩, .int .u8 0] : Array Value).toList 8).map (fun x => (x.1, x.2.1)) = some ([.lit (.string []), .lit (.int .u8 0)], []) := by kernel_rfl
  obtain ⟨⟨x1, x2, x3⟩, hx, hx1⟩ := Option.map_eq_some_iff.1 hw
  simp only [Prod.mk.injEq] at hx1
  obtain ⟨rfl, rfl⟩ := hx1
  exact OpenSpec.preRow_of_cond 8 hx (by kernel_rfl) (fun k hk => by cases hk) (by kernel_rfl) (configIdle_laid os _)

set_option maxRecDepth 100000 in
theorem configIdle_lifted (os : Os) (started : os.Started) (H : Type) (enc : TypeId × Value → H) (F : Stop.Interp) :
    ReturnsInHanded {} Tryd.checked os 4 .any ((OpenSpec.ofChange Rows.configIdleSpec).preRow enc Tryd.prog Tryd.f4 Rows.configIdleRow.domain false Rows.configIdleRow.laid) (((OpenSpec.ofChange Rows.configIdleSpec).at F).post enc Tryd.prog Tryd.f4 false true false false) := by
  refine returnsInHanded_of_row (C := Tryd.checked) (s := OpenSpec.ofChange Rows.configIdleSpec) Tryd.own started (by kernel_rfl) Tryd.func4
    (witness_row_atRef (enc := enc) (C := Tryd.checked) false (laidWorld os) #[.string ⟨#[]⟩, .int .u8 0] rfl (by kernel_rfl) (by kernel_rfl) (by kernel_rfl) (configIdle_reads os enc)) ?_
  intro W base args ds gs before hval hW _ _ hwt hL _ _
  refine law_post2 (s := Rows.configIdleSpec) (E := E0) (m := 8) (ss := [(false, .str), (false, .it .u8)]) Tryd.laidOut (by kernel_rfl) Tryd.func4 (configIdle_gi hL) (gb_lt (configIdle_gi hL)) rfl rfl (by kernel_rfl) ?_ (by kernel_rfl) (by kernel_rfl) hval hW hwt ok_ConfigIdle
  intro ds h
  rcases ds with _ | ⟨d1, _ | ⟨d2, _ | ⟨d3, r⟩⟩⟩ <;> first | rfl | (simp [Tryd.params4] at h)

theorem configIdle_said : Rows.ConfigIdleSaid :=
  OpenClaim.holds_of_cond 4 Tryd.f4 rfl rfl rfl rfl rfl rfl rfl ⟨rfl, rfl, rfl, rfl, rfl⟩ rfl rfl rfl rfl rfl (by kernel_rfl) Tryd.func4 (by kernel_rfl)
    (of_decide_eq_true (by kernel_rfl)) (by unfold Func.isWrapper; first | (rw [if_pos (by decide +kernel)]; kernel_rfl) | (rw [if_neg (by decide +kernel)]; exact ⟨rfl, rfl⟩))
    (fun os started H enc _ F => by rw [OpenClaim.pre_eq_preRow]; exact configIdle_lifted os started H enc F)

theorem configIdle_plain (f : FuncId) (fn : Func) (hf : Tryd.pinned.checked.prog.funcNamed Rows.configIdleRow.func = some f) (hfn : Tryd.pinned.checked.prog.funcs[f]? = some fn) :
    false = Tryd.pinned.checked.prog.looks [] ∧ ∀ (j : Nat) t, fn.params[j]? = some t → Tryd.pinned.checked.prog.wantsStandIn t = false := by
  obtain rfl : f = 4 := Option.some.inj ((show Tryd.prog.funcNamed Rows.configIdleRow.func = some 4 by kernel_rfl).symm.trans hf) |>.symm
  obtain rfl : fn = Tryd.f4 := (Option.some.inj (Tryd.func4.symm.trans hfn)).symm
  refine ⟨by kernel_rfl, fun j t ht => ?_⟩
  have hall : Tryd.f4.params.all (fun t => !Tryd.prog.wantsStandIn t) = true := by kernel_rfl
  have := Array.all_eq_true_iff_forall_mem.1 hall t (Array.mem_of_getElem? ht)
  show Tryd.prog.wantsStandIn t = false
  simpa using this

theorem configIdle_card : Rows.ConfigIdleCardSaid :=
  Claim7.holds_tied_plain_at .later [] _ _ _ _ configIdle_said (fun _ h => by cases h) (by kernel_rfl) (fun _ h => by cases h) configIdle_row_tie rfl ⟨rfl, rfl⟩ (by kernel_rfl) rfl configIdle_plain (by kernel_rfl)

end Go.Proofs.YtbkchhjdjijhkaaDoor
