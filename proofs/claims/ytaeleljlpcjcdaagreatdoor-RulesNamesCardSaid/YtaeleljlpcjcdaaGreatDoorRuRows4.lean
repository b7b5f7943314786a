/- The row and the card on methods' names, proved: whatever the input, where the listed variables hold what the program's text lays. -/
import Derived.Test.YtaeleljlpcjcdaaGreatDoorPqC
import Derived.Test.YtaeleljlpcjcdaaGreatDoorSxTab
import Derived.ProofKit
import Derived.WalkKit
import Derived.OpenShut
import Derived.Deep.DeepHandedRow
import Derived.Deep.DeepWitnessRowRef
import Derived.Lib.LaidTab
set_option linter.unusedSimpArgs false
set_option linter.unusedVariables false
namespace Go.Proofs.YtaeleljlpcjcdaaGreatDoor
open Go Go.Sx Go.ChangeShapes Go.WideShapes Go.ChangeAt Go.RowKit

theorem ok_RulesNames : ∀ xs, okArgsS [(false, .it .i64), (false, .it .i64)] xs → Meets Tryz.prog E0 n_law12_RulesNames xs [] (Bo true) [] := by
  intro xs h
  simp only [okArgsS, okS, if_false, Bool.false_eq_true] at h
  obtain ⟨_, _, rfl, ⟨a, rfl, ha⟩, _, _, rfl, ⟨b, rfl, hb⟩, rfl⟩ := h
  have ha := i64_wf ha
  have hb := i64_wf hb
  exact f_law12_RulesNames a b ha.1 ha.2 hb.1 hb.2

theorem rulesNames_gi {W : World} (hL0 : laidMetH Tryz.prog Rows.rulesNamesRow.laid W) : E0.gi W := by
  have hL : laidMet Tryz.prog Rows.rulesNamesRow.laid W := laid_plain (by kernel_rfl) hL0
  refine ⟨fun p hp => ?_, fun g hg => ?_⟩
  · simp only [tabs0, List.mem_cons, List.not_mem_nil, or_false] at hp
    rcases hp with rfl | rfl | rfl | rfl
    · have h := laid_drop 0 hL
      rw [show Rows.rulesNamesRow.laid.drop 0 = ("math/bits.deBruijn32tab", Lib.tabData .u8 [0, 1, 28, 2, 29, 14, 24, 3, 30, 22, 20, 15, 25, 17, 4, 8, 31, 27, 13, 23, 21, 19, 16, 7, 26, 12, 18, 6, 11, 5, 10, 9]) :: Rows.rulesNamesRow.laid.drop 1 from by kernel_rfl] at h
      exact tab_laid2 (by kernel_rfl) h
    · have h := laid_drop 1 hL
      rw [show Rows.rulesNamesRow.laid.drop 1 = ("math/bits.deBruijn64tab", Lib.tabData .u8 [0, 1, 56, 2, 57, 49, 28, 3, 61, 58, 42, 50, 38, 29, 17, 4, 62, 47, 59, 36, 45, 43, 51, 22, 53, 39, 33, 30, 24, 18, 12, 5, 63, 55, 48, 27, 60, 41, 37, 16, 46, 35, 44, 21, 52, 32, 23, 11, 54, 26, 40, 15, 34, 20, 31, 10, 25, 14, 19, 9, 13, 8, 7, 6]) :: Rows.rulesNamesRow.laid.drop 2 from by kernel_rfl] at h
      exact tab_laid2 (by kernel_rfl) h
    · have h := laid_drop 2 hL
      rw [show Rows.rulesNamesRow.laid.drop 2 = ("internal/strconv.uint64pow10", Lib.tabData .u64 [1, 10, 100, 1000, 10000, 100000, 1000000, 10000000, 100000000, 1000000000, 10000000000, 100000000000, 1000000000000, 10000000000000, 100000000000000, 1000000000000000, 10000000000000000, 100000000000000000, 1000000000000000000, 10000000000000000000]) :: Rows.rulesNamesRow.laid.drop 3 from by kernel_rfl] at h
      exact tab_laid2 (by kernel_rfl) h
    · have h := laid_drop 6 hL
      rw [show Rows.rulesNamesRow.laid.drop 6 = ("isobar/retention.seconds", Lib.tabData .i64 [1, 60, 3600, 86400, 604800, 31536000]) :: Rows.rulesNamesRow.laid.drop 7 from by kernel_rfl] at h
      exact tab_laid2 (by kernel_rfl) h
  · simp only [ifs0, List.mem_cons, List.not_mem_nil, or_false] at hg
    rcases hg with rfl | rfl
    · have h := laid_drop 4 hL
      rw [show Rows.rulesNamesRow.laid.drop 4 = ("strconv.ErrRange", .iface "*errors.errorString" (.ptr (.agg [.lit (.string [118, 97, 108, 117, 101, 32, 111, 117, 116, 32, 111, 102, 32, 114, 97, 110, 103, 101])]))) :: Rows.rulesNamesRow.laid.drop 5 from by kernel_rfl] at h
      exact if_laid (by kernel_rfl) h
    · have h := laid_drop 5 hL
      rw [show Rows.rulesNamesRow.laid.drop 5 = ("strconv.ErrSyntax", .iface "*errors.errorString" (.ptr (.agg [.lit (.string [105, 110, 118, 97, 108, 105, 100, 32, 115, 121, 110, 116, 97, 120])]))) :: Rows.rulesNamesRow.laid.drop 6 from by kernel_rfl] at h
      exact if_laid (by kernel_rfl) h
theorem rulesNames_laid (os : Os) (args : Array Value) : laidMet Tryz.prog Rows.rulesNamesRow.laid ((laidWorld os).forCall (fun _ _ => 0) ⟨#[], args, []⟩).memory :=
  laidMet_of_run' 8 (by kernel_rfl) (by kernel_rfl)

theorem rulesNames_reads (os : Os) {H : Type} (enc : TypeId × Value → H) : (OpenSpec.ofChange Rows.rulesNamesSpec).preRow enc Tryz.prog Tryz.f5 Rows.rulesNamesRow.domain false Rows.rulesNamesRow.laid ((laidWorld os).forCall (fun _ _ => 0) ⟨#[], #[.int .i64 0, .int .i64 0], []⟩).memory #[.int .i64 0, .int .i64 0] := by
  have hw : (DataW.whole enc Tryz.prog ((laidWorld os).forCall (fun _ _ => 0) ⟨#[], #[.int .i64 0, .int .i64 0], []⟩).memory Tryz.f5.params.toList Rows.rulesNamesSpec.vars false (#[.int .i64 0, .int .i64 0] : Array Value).toList 8).map (fun x => (x.1, x.2.1)) = some ([.lit (.int .i64 0), .lit (.int .i64 0)], []) := by kernel_rfl
  obtain ⟨⟨x1, x2, x3⟩, hx, hx1⟩ := Option.map_eq_some_iff.1 hw
  simp only [Prod.mk.injEq] at hx1
  obtain ⟨rfl, rfl⟩ := hx1
  exact OpenSpec.preRow_of_cond 8 hx (by kernel_rfl) (fun k hk => by cases hk) (by kernel_rfl) (rulesNames_laid os _)

set_option maxRecDepth 100000 in
theorem rulesNames_lifted (os : Os) (started : os.Started) (H : Type) (enc : TypeId × Value → H) (F : Stop.Interp) :
    ReturnsInHanded {} Tryz.checked os 5 .any ((OpenSpec.ofChange Rows.rulesNamesSpec).preRow enc Tryz.prog Tryz.f5 Rows.rulesNamesRow.domain false Rows.rulesNamesRow.laid) (((OpenSpec.ofChange Rows.rulesNamesSpec).at F).post enc Tryz.prog Tryz.f5 false true false false) := by
  refine returnsInHanded_of_row (C := Tryz.checked) (s := OpenSpec.ofChange Rows.rulesNamesSpec) Tryz.own started (by kernel_rfl) Tryz.func5
    (witness_row_atRef (enc := enc) (C := Tryz.checked) false (laidWorld os) #[.int .i64 0, .int .i64 0] rfl (by kernel_rfl) (by kernel_rfl) (by kernel_rfl) (rulesNames_reads os enc)) ?_
  intro W base args ds gs before hval hW _ _ hwt hL _ _
  refine law_post2 (s := Rows.rulesNamesSpec) (E := E0) (m := 8) (ss := [(false, .it .i64), (false, .it .i64)]) Tryz.laidOut (by kernel_rfl) Tryz.func5 (rulesNames_gi hL) (gb_lt (rulesNames_gi hL)) rfl rfl (by kernel_rfl) ?_ (by kernel_rfl) (by kernel_rfl) hval hW hwt ok_RulesNames
  intro ds h
  rcases ds with _ | ⟨d1, _ | ⟨d2, _ | ⟨d3, r⟩⟩⟩ <;> first | rfl | (simp [Tryz.params5] at h)

theorem rulesNames_said : Rows.RulesNamesSaid :=
  OpenClaim.holds_of_cond 5 Tryz.f5 rfl rfl rfl rfl rfl rfl rfl ⟨rfl, rfl, rfl, rfl, rfl⟩ rfl rfl rfl rfl rfl (by kernel_rfl) Tryz.func5 (by kernel_rfl)
    (of_decide_eq_true (by kernel_rfl)) (by unfold Func.isWrapper; first | (rw [if_pos (by decide +kernel)]; kernel_rfl) | (rw [if_neg (by decide +kernel)]; exact ⟨rfl, rfl⟩))
    (fun os started H enc _ F => by rw [OpenClaim.pre_eq_preRow]; exact rulesNames_lifted os started H enc F)

theorem rulesNames_plain (f : FuncId) (fn : Func) (hf : Tryz.pinned.checked.prog.funcNamed Rows.rulesNamesRow.func = some f) (hfn : Tryz.pinned.checked.prog.funcs[f]? = some fn) :
    true = Tryz.pinned.checked.prog.looks [] ∧ ∀ (j : Nat) t, fn.params[j]? = some t → Tryz.pinned.checked.prog.wantsStandIn t = false := by
  obtain rfl : f = 5 := Option.some.inj ((show Tryz.prog.funcNamed Rows.rulesNamesRow.func = some 5 by kernel_rfl).symm.trans hf) |>.symm
  obtain rfl : fn = Tryz.f5 := (Option.some.inj (Tryz.func5.symm.trans hfn)).symm
  refine ⟨by kernel_rfl, fun j t ht => ?_⟩
  have hall : Tryz.f5.params.all (fun t => !Tryz.prog.wantsStandIn t) = true := by kernel_rfl
  have := Array.all_eq_true_iff_forall_mem.1 hall t (Array.mem_of_getElem? ht)
  show Tryz.prog.wantsStandIn t = false
  simpa using this

theorem rulesNames_card : Rows.RulesNamesCardSaid :=
  Claim7.holds_tied_plain_at .later [] _ _ _ _ rulesNames_said (fun _ h => by cases h) (by kernel_rfl) (fun _ h => by cases h) rulesNames_row_tie rfl ⟨rfl, rfl⟩ (by kernel_rfl) rfl rulesNames_plain (by kernel_rfl)

end Go.Proofs.YtaeleljlpcjcdaaGreatDoor
