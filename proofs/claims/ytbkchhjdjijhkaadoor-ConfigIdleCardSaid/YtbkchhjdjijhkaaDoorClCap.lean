/- A call of a function value that has variables. No statement of the seat is proved here. -/
import Derived.Test.YtbkchhjdjijhkaaDoorSlim
import Derived.Test.YtbkchhjdjijhkaaDoorSxH
set_option linter.unusedSimpArgs false
set_option linter.unusedVariables false
namespace Go.Proofs.YtbkchhjdjijhkaaDoor
open Go Go.Sx

/-- A call of a function value that has variables: they are handed, and left. -/
theorem Cl_cap {P : Program} {E : Env} {io : List Nat} {Q : Exit → St → Prop} {k : List Kt} {env : List (Nat × AV)} {sto : List (Nat × Ob)} {draw : Bool} {prs : List (Nat × Nat)} {vars : List Nat} {id : Nat} {acc : List Rc}
    {ops : List SO} {d : Option Nat} {g : FuncId} {xs caps : List AV} {r : AV} {ins outs : List (Nat × Ob)} (h : Meets P E g (xs ++ caps) ins r outs) (hin : ∀ i ∈ keysOf ins, stoOf sto i = stoOf ins i) (hk : keysOf outs = keysOf ins) (nd : (keysOf ins).Nodup)
    (hr : R P E io Q draw prs vars k (id + 1) ops (if draw then acc ++ [⟨r, idsL (xs ++ caps) ++ keysOf outs, outs⟩] else acc) (match d with | some d => (d, r) :: env | none => env) (outs ++ sto)) :
    Cl P E io Q draw prs vars k id ops acc d env sto (.fn g [] caps) xs := by
  refine ⟨g, [], caps, rfl, r, ins, outs, [], false, xs ++ caps, ?_, ?_⟩
  · exact { meets := h, wk := by simpa using Wks.refl (xs ++ caps), insOk := hin, newOk := fun i hi => Or.inl (by rw [← hk]; exact hi), snOk := by simp, keepOk := by simp, nd := by rw [hk]; exact nd }
  · simp only [froze_nil, List.append_nil, List.nil_append, Bool.false_eq_true, if_false]
    exact hr

end Go.Proofs.YtbkchhjdjijhkaaDoor
