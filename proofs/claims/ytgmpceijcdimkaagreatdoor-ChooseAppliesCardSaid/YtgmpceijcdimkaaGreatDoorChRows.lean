/- The row and the card on what calls answer, proved: whatever the input, where the listed variables hold what the program's text lays. -/
import Derived.Test.YtgmpceijcdimkaaGreatDoorPkD
import Derived.Test.YtgmpceijcdimkaaGreatDoorSxTab
import Derived.ProofKit
import Derived.WalkKit
import Derived.OpenShut
import Derived.Deep.DeepHandedRow
import Derived.Deep.DeepWitnessRowRef
import Derived.Lib.LaidTab
set_option linter.unusedSimpArgs false
set_option linter.unusedVariables false
namespace Go.Proofs.YtgmpceijcdimkaaGreatDoor
open Go Go.Sx Go.ChangeShapes Go.WideShapes Go.ChangeAt Go.RowKit

theorem C1m : ∀ xs, B34 [(true, .st [.str, .sl 2 (.st [.bo, .it .i64]), .str]), (false, .sl 4 (.st [.str, .it .i64, .it .i64, .sl 2 (.st [.bo, .it .i64])]))] xs → Meets Tryz.prog E0 A27 xs [] (Bo true) [] := by
  intro xs h
  simp only [B34, if_true, if_false, Bool.false_eq_true] at h
  obtain ⟨cs, _, rfl, hc, ds, _, rfl, hd, rfl⟩ := h
  obtain ⟨w, t, a, e, h1, h2⟩ := D9b hc
  obtain ⟨l, e2, h3, h4⟩ := D9y hd
  rw [e, e2]
  exact B4c w t a l (by omega) h1 h4 h2

theorem B2e {W : World} (hL0 : laidMetH Tryz.prog Rows.chooseAppliesRow.laid W) : E0.gi W := by
  have hL : laidMet Tryz.prog Rows.chooseAppliesRow.laid W := D46 (by kernel_rfl) hL0
  refine ⟨fun p hp => ?_, fun g hg => ?_⟩
  · simp [E15] at hp
  · simp [E33] at hg

theorem B82 (os : Os) (args : Array Value) : laidMet Tryz.prog Rows.chooseAppliesRow.laid ((B63 os).forCall (fun _ _ => 0) ⟨#[], args, []⟩).memory :=
  laidMet_of_run' 8 (by kernel_rfl) (by kernel_rfl)

theorem B6u (os : Os) {H : Type} (enc : TypeId × Value → H) : (OpenSpec.ofChange Rows.chooseAppliesSpec).preRow enc Tryz.prog Tryz.f3 Rows.chooseAppliesRow.domain false Rows.chooseAppliesRow.laid ((B63 os).forCall (fun _ _ => 0) ⟨#[], #[.agg #[.string ⟨#[]⟩, .slice none 0 0, .string ⟨#[]⟩], .slice none 0 0], []⟩).memory #[.agg #[.string ⟨#[]⟩, .slice none 0 0, .string ⟨#[]⟩], .slice none 0 0] := by
  have hw : (DataW.whole enc Tryz.prog ((B63 os).forCall (fun _ _ => 0) ⟨#[], #[.agg #[.string ⟨#[]⟩, .slice none 0 0, .string ⟨#[]⟩], .slice none 0 0], []⟩).memory Tryz.f3.params.toList Rows.chooseAppliesSpec.vars false (#[.agg #[.string ⟨#[]⟩, .slice none 0 0, .string ⟨#[]⟩], .slice none 0 0] : Array Value).toList 8).map (fun x => (x.1, x.2.1)) = some ([.agg [.lit (.string []), .nil, .lit (.string [])], .nil], []) := by kernel_rfl
  obtain ⟨⟨x1, x2, x3⟩, hx, hx1⟩ := Option.map_eq_some_iff.1 hw
  simp only [Prod.mk.injEq] at hx1
  obtain ⟨rfl, rfl⟩ := hx1
  exact OpenSpec.preRow_of_cond 8 hx (by kernel_rfl) (fun k hk => by cases hk) (by kernel_rfl) (B82 os _)

set_option maxRecDepth 100000 in
theorem B55 (os : Os) (started : os.Started) (H : Type) (enc : TypeId × Value → H) (F : Stop.Interp) :
    ReturnsInHanded {} Tryz.checked os 3 .any ((OpenSpec.ofChange Rows.chooseAppliesSpec).preRow enc Tryz.prog Tryz.f3 Rows.chooseAppliesRow.domain false Rows.chooseAppliesRow.laid) (((OpenSpec.ofChange Rows.chooseAppliesSpec).at F).post enc Tryz.prog Tryz.f3 false true false false) := by
  refine returnsInHanded_of_row (C := Tryz.checked) (s := OpenSpec.ofChange Rows.chooseAppliesSpec) Tryz.own started (by kernel_rfl) Tryz.func3
    (witness_row_atRef (enc := enc) (C := Tryz.checked) false (B63 os) #[.agg #[.string ⟨#[]⟩, .slice none 0 0, .string ⟨#[]⟩], .slice none 0 0] rfl (by kernel_rfl) (by kernel_rfl) (by kernel_rfl) (B6u os enc)) ?_
  intro W base args ds gs before hval hW _ _ hwt hL _ _
  refine D6m (s := Rows.chooseAppliesSpec) (E := E0) (m := 8) (ss := [(true, .st [.str, .sl 2 (.st [.bo, .it .i64]), .str]), (false, .sl 4 (.st [.str, .it .i64, .it .i64, .sl 2 (.st [.bo, .it .i64])]))]) Tryz.laidOut (by kernel_rfl) Tryz.func3 (B2e hL) (E3d (B2e hL)) rfl rfl (by kernel_rfl) ?_ (by kernel_rfl) (by kernel_rfl) hval hW hwt C1m
  intro ds h
  rcases ds with _ | ⟨d1, _ | ⟨d2, _ | ⟨d3, r⟩⟩⟩ <;> first | rfl | (simp [Tryz.params3] at h)

theorem B8i : Rows.ChooseAppliesSaid :=
  OpenClaim.holds_of_cond 3 Tryz.f3 rfl rfl rfl rfl rfl rfl rfl ⟨rfl, rfl, rfl, rfl, rfl⟩ rfl rfl rfl rfl rfl (by kernel_rfl) Tryz.func3 (by kernel_rfl)
    (of_decide_eq_true (by kernel_rfl)) (by unfold Func.isWrapper; first | (rw [if_pos (by decide +kernel)]; kernel_rfl) | (rw [if_neg (by decide +kernel)]; exact ⟨rfl, rfl⟩))
    (fun os started H enc _ F => by rw [OpenClaim.pre_eq_preRow]; exact B55 os started H enc F)

theorem B6p (f : FuncId) (fn : Func) (hf : Tryz.pinned.checked.prog.funcNamed Rows.chooseAppliesRow.func = some f) (hfn : Tryz.pinned.checked.prog.funcs[f]? = some fn) :
    false = Tryz.pinned.checked.prog.looks [] ∧ ∀ (j : Nat) t, fn.params[j]? = some t → Tryz.pinned.checked.prog.wantsStandIn t = false := by
  obtain rfl : f = 3 := Option.some.inj ((show Tryz.prog.funcNamed Rows.chooseAppliesRow.func = some 3 by kernel_rfl).symm.trans hf) |>.symm
  obtain rfl : fn = Tryz.f3 := (Option.some.inj (Tryz.func3.symm.trans hfn)).symm
  refine ⟨by kernel_rfl, fun j t ht => ?_⟩
  have hall : Tryz.f3.params.all (fun t => !Tryz.prog.wantsStandIn t) = true := by kernel_rfl
  have := Array.all_eq_true_iff_forall_mem.1 hall t (Array.mem_of_getElem? ht)
  show Tryz.prog.wantsStandIn t = false
  simpa using this

theorem chooseApplies_card : Rows.ChooseAppliesCardSaid :=
  Claim7.holds_tied_plain_at .later [] _ _ _ _ B8i (fun _ h => by cases h) (by kernel_rfl) (fun _ h => by cases h) chooseApplies_row_tie rfl ⟨rfl, rfl⟩ (by kernel_rfl) rfl B6p (by kernel_rfl)

end Go.Proofs.YtgmpceijcdimkaaGreatDoor
