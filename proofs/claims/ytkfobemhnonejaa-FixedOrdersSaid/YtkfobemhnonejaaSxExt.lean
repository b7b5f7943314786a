/- Functions without a body: contracts out of what the library says of them. No statement of a seat is proved here. -/
import Derived.Test.YtkfobemhnonejaaSxNum
import Derived.Laws.Externs
set_option linter.unusedSimpArgs false
set_option linter.unusedVariables false
namespace Go.Sx

/-- A function that answers at once and leaves the world as it is. -/
theorem meets_now {P : Program} {E : Env} {f : FuncId} {args : List AV} {r : AV} (ha : idsL args = []) (hr : r.ids = [])
    (h : ∀ (A : Nat → Prop) (φ : Nat → Nat) (w : World) (vals : Array Value), CAs A φ w args vals.toList → ∃ v, (callFunc f vals).run P w = .ok (.value v) w ∧ CA A φ w r v) : Meets P E f args [] r [] where
  shutIn := shut0 ha
  shutOut := shut0 (by simp [idsL, hr])
  stay := by simp
  runs := by
    intro A φ w vals hg hgb hA hh ha
    obtain ⟨v, h1, h2⟩ := h A φ w vals ha
    refine Or.inr ⟨v, w, h1, A, φ, ?_⟩
    exact ⟨Goes.refl A w, by simp, hh, by simp [keysOf], h2, fun b hb => Or.inl hb, hA, fun _ _ _ => rfl, rfl, rfl, rfl, Nat.le_refl _⟩

/-- 'bits.Add64'. -/
theorem add64_meets {P : Program} {E : Env} {f : FuncId} {fn : Func} (hf : P.funcs[f]? = some fn) (hname : (fn.name == "runtime.NumGoroutine") = false)
    (hb : fn.body.isNone = true) (hn : Extern.findNext fn = none) (he : Extern.find fn = some add64Entry) (x y c : Nat) (hc : c ≤ 1) :
    Meets P E f [U x, U y, U c] [] (.tp [U ((x + y + c) % 18446744073709551616 : Nat), U ((x + y + c) / 18446744073709551616 : Nat)]) [] := by
  refine meets_now rfl rfl fun A φ w vals hv => ?_
  simp only [CAs] at hv
  obtain ⟨a, _, e1, ha, b, _, rfl, hb', d, _, rfl, hd, rfl⟩ := hv
  obtain ⟨rfl, _⟩ := ca_v ha
  obtain ⟨rfl, _⟩ := ca_v hb'
  obtain ⟨rfl, _⟩ := ca_v hd
  have e2 : vals = #[.int .u64 x, .int .u64 y, .int .u64 c] := by cases vals; simp_all
  subst e2
  refine ⟨_, by rw [run_callFunc_extern hf hname hb hn he, run_add64 _ _ _ (by omega) (by omega) (by omega) (by omega)]; rfl, ?_⟩
  simp only [CA, CAs, CT]
  refine ⟨_, rfl, _, _, rfl, ⟨?_, rfl⟩, _, _, rfl, ⟨?_, rfl⟩, rfl⟩
  · congr 1
  · congr 1
end Go.Sx
