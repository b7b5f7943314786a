/- The row and the card on the first ones, proved: whatever the input, where the listed variables hold what the program's text lays. -/
import Derived.Test.YtgmpceijcdimkaaGreatDoorPkE
import Derived.Test.YtgmpceijcdimkaaGreatDoorSxTab
import Derived.ProofKit
import Derived.WalkKit
import Derived.OpenShut
import Derived.Deep.DeepHandedRow
import Derived.Deep.DeepWitnessRowRef
import Derived.Lib.LaidTab
set_option linter.unusedSimpArgs false
set_option linter.unusedVariables false
namespace Go.Proofs.YtgmpceijcdimkaaGreatDoor
open Go Go.Sx Go.ChangeShapes Go.WideShapes Go.ChangeAt Go.RowKit

theorem ok_ChooseFirst : ∀ xs, okArgsS [(false, .sl 4 (.st [.str, .it .i64, .it .i64, .sl 2 (.st [.bo, .it .i64])])), (false, .it .u8)] xs → Meets Tryz.prog E0 n_law27_ChooseFirst xs [] (Bo true) [] := by
  intro xs h
  simp only [okArgsS, if_true, if_false, Bool.false_eq_true] at h
  obtain ⟨ds, _, rfl, hd, cs, _, rfl, hc, rfl⟩ := h
  obtain ⟨l, rfl, h3, h4⟩ := list_of hd
  rw [okS] at hc
  obtain ⟨i, rfl, hi⟩ := hc
  obtain ⟨n, hn, rfl⟩ := u8_wf hi
  exact f_law27_ChooseFirst l n hn (by omega) h4

theorem chooseFirst_gi {W : World} (hL0 : laidMetH Tryz.prog Rows.chooseFirstRow.laid W) : E0.gi W := by
  have hL : laidMet Tryz.prog Rows.chooseFirstRow.laid W := laid_plain (by kernel_rfl) hL0
  refine ⟨fun p hp => ?_, fun g hg => ?_⟩
  · simp [tabs0] at hp
  · simp [ifs0] at hg

theorem chooseFirst_laid (os : Os) (args : Array Value) : laidMet Tryz.prog Rows.chooseFirstRow.laid ((laidWorld os).forCall (fun _ _ => 0) ⟨#[], args, []⟩).memory :=
  laidMet_of_run' 8 (by kernel_rfl) (by kernel_rfl)

theorem chooseFirst_reads (os : Os) {H : Type} (enc : TypeId × Value → H) : (OpenSpec.ofChange Rows.chooseFirstSpec).preRow enc Tryz.prog Tryz.f7 Rows.chooseFirstRow.domain false Rows.chooseFirstRow.laid ((laidWorld os).forCall (fun _ _ => 0) ⟨#[], #[.slice none 0 0, .int .u8 0], []⟩).memory #[.slice none 0 0, .int .u8 0] := by
  have hw : (DataW.whole enc Tryz.prog ((laidWorld os).forCall (fun _ _ => 0) ⟨#[], #[.slice none 0 0, .int .u8 0], []⟩).memory Tryz.f7.params.toList Rows.chooseFirstSpec.vars false (#[.slice none 0 0, .int .u8 0] : Array Value).toList 8).map (fun x => (x.1, x.2.1)) = some ([.nil, .lit (.int .u8 0)], []) := by kernel_rfl
  obtain ⟨⟨x1, x2, x3⟩, hx, hx1⟩ := Option.map_eq_some_iff.1 hw
  simp only [Prod.mk.injEq] at hx1
  obtain ⟨rfl, rfl⟩ := hx1
  exact OpenSpec.preRow_of_cond 8 hx (by kernel_rfl) (fun k hk => by cases hk) (by kernel_rfl) (chooseFirst_laid os _)

set_option maxRecDepth 100000 in
theorem chooseFirst_lifted (os : Os) (started : os.Started) (H : Type) (enc : TypeId × Value → H) (F : Stop.Interp) :
    ReturnsInHanded {} Tryz.checked os 7 .any ((OpenSpec.ofChange Rows.chooseFirstSpec).preRow enc Tryz.prog Tryz.f7 Rows.chooseFirstRow.domain false Rows.chooseFirstRow.laid) (((OpenSpec.ofChange Rows.chooseFirstSpec).at F).post enc Tryz.prog Tryz.f7 false true false false) := by
  refine returnsInHanded_of_row (C := Tryz.checked) (s := OpenSpec.ofChange Rows.chooseFirstSpec) Tryz.own started (by kernel_rfl) Tryz.func7
    (witness_row_atRef (enc := enc) (C := Tryz.checked) false (laidWorld os) #[.slice none 0 0, .int .u8 0] rfl (by kernel_rfl) (by kernel_rfl) (by kernel_rfl) (chooseFirst_reads os enc)) ?_
  intro W base args ds gs before hval hW _ _ hwt hL _ _
  refine law_post2 (s := Rows.chooseFirstSpec) (E := E0) (m := 8) (ss := [(false, .sl 4 (.st [.str, .it .i64, .it .i64, .sl 2 (.st [.bo, .it .i64])])), (false, .it .u8)]) Tryz.laidOut (by kernel_rfl) Tryz.func7 (chooseFirst_gi hL) (gb_lt (chooseFirst_gi hL)) rfl rfl (by kernel_rfl) ?_ (by kernel_rfl) (by kernel_rfl) hval hW hwt ok_ChooseFirst
  intro ds h
  rcases ds with _ | ⟨d1, _ | ⟨d2, _ | ⟨d3, r⟩⟩⟩ <;> first | rfl | (simp [Tryz.params7] at h)

theorem chooseFirst_said : Rows.ChooseFirstSaid :=
  OpenClaim.holds_of_cond 7 Tryz.f7 rfl rfl rfl rfl rfl rfl rfl ⟨rfl, rfl, rfl, rfl, rfl⟩ rfl rfl rfl rfl rfl (by kernel_rfl) Tryz.func7 (by kernel_rfl)
    (of_decide_eq_true (by kernel_rfl)) (by unfold Func.isWrapper; first | (rw [if_pos (by decide +kernel)]; kernel_rfl) | (rw [if_neg (by decide +kernel)]; exact ⟨rfl, rfl⟩))
    (fun os started H enc _ F => by rw [OpenClaim.pre_eq_preRow]; exact chooseFirst_lifted os started H enc F)

theorem chooseFirst_plain (f : FuncId) (fn : Func) (hf : Tryz.pinned.checked.prog.funcNamed Rows.chooseFirstRow.func = some f) (hfn : Tryz.pinned.checked.prog.funcs[f]? = some fn) :
    false = Tryz.pinned.checked.prog.looks [] ∧ ∀ (j : Nat) t, fn.params[j]? = some t → Tryz.pinned.checked.prog.wantsStandIn t = false := by
  obtain rfl : f = 7 := Option.some.inj ((show Tryz.prog.funcNamed Rows.chooseFirstRow.func = some 7 by kernel_rfl).symm.trans hf) |>.symm
  obtain rfl : fn = Tryz.f7 := (Option.some.inj (Tryz.func7.symm.trans hfn)).symm
  refine ⟨by kernel_rfl, fun j t ht => ?_⟩
  have hall : Tryz.f7.params.all (fun t => !Tryz.prog.wantsStandIn t) = true := by kernel_rfl
  have := Array.all_eq_true_iff_forall_mem.1 hall t (Array.mem_of_getElem? ht)
  show Tryz.prog.wantsStandIn t = false
  simpa using this

theorem chooseFirst_card : Rows.ChooseFirstCardSaid :=
  Claim7.holds_tied_plain_at .later [] _ _ _ _ chooseFirst_said (fun _ h => by cases h) (by kernel_rfl) (fun _ h => by cases h) chooseFirst_row_tie rfl ⟨rfl, rfl⟩ (by kernel_rfl) rfl chooseFirst_plain (by kernel_rfl)

end Go.Proofs.YtgmpceijcdimkaaGreatDoor
