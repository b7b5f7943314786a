/- From the library's contracts to mine. No statement of the seat is proved here. -/
import Derived.Test.YtbkchhjdjijhkaaDoorSlim
import Derived.Test.YtbkchhjdjijhkaaDoorSxH
set_option linter.unusedSimpArgs false
set_option linter.unusedVariables false
namespace Go.Proofs.YtbkchhjdjijhkaaDoor
open Go Go.Sx

/-- The world has only grown. -/
structure Grown (E : Env) (w w' : World) : Prop where
  os : w'.os = w.os
  tape : w'.tape = w.tape
  output : w'.output = w.output
  drawn : E.cnt → w.drawn ≤ w'.drawn
  size : w.heap.size ≤ w'.heap.size
  block : ∀ b, b < w.heap.size → w'.heap[b]? = w.heap[b]?

theorem Grown.refl {E : Env} (w : World) : Grown E w w := ⟨rfl, rfl, rfl, fun _ => Nat.le_refl _, Nat.le_refl _, fun _ _ => rfl⟩

theorem cas_plain {A : Nat → Prop} {φ : Nat → Nat} {w : World} : ∀ {vals ys : List Value}, CAs A φ w (vals.map fun x => .t (.v x)) ys → ys = vals
  | [], ys, h => by simpa [CAs] using h
  | x :: l, ys, h => by
    simp only [List.map_cons, CAs, CA, CT] at h
    obtain ⟨z, zs, rfl, ⟨rfl, _⟩, h⟩ := h
    rw [cas_plain h]

theorem ids_plain (vals : List Value) : idsL (vals.map fun x => .t (.v x)) = [] := by
  induction vals with
  | nil => rfl
  | cons x l ih => simp only [List.map_cons, idsL, AV.ids, ih]; rfl

theorem meets_lib2 {P : Program} {E : Env} {f : FuncId} {av : List AV} {v : Value} {r : AV} (ha : idsL av = []) (he : ∀ args w, (callFunc f args).run P w = .ok (.enter f args) w) (hr : ∀ A φ w, CA A φ w r v) (hi : r.ids = [])
    (h : ∀ (A : Nat → Prop) φ w (args : Array Value), E.gi w → (∀ b, A b → b < w.heap.size) → CAs A φ w av args.toList → Calls P f args w fun e w' => e = .returned v ∧ Grown E w w') : Meets P E f av [] r [] where
  shutIn := shut0 ha
  shutOut := shut0 (by simp [idsL, hi])
  stay := by simp [keysOf]
  runs := fun A φ w args gi gA alt hH hargs => by
    refine Or.inl ⟨he _ _, (h A φ w args gi alt hargs).mono ?_⟩
    rintro e w' ⟨rfl, hg⟩
    refine ⟨v, rfl, A, φ, ?_⟩
    exact {
      go := ⟨fun b hb => ⟨hb, hg.block b (alt b hb)⟩, fun b n hb => by
        have hlt : b < w.heap.size := by obtain ⟨cs, e, h1, _⟩ := hb; exact heap_lt h1
        exact RowCap.of_heap (hg.block b hlt) hb⟩
      agree := by simp [keysOf]
      holds := ⟨fun id o ho => by simp [stoOf] at ho, fun id o ho => by simp [stoOf] at ho, fun i j hi => by simp [keysOf] at hi⟩
      fresh := by simp [keysOf]
      ca := hr _ _ _
      anew := fun b hb => Or.inl hb
      alt := fun b hb => Nat.lt_of_lt_of_le (alt b hb) hg.size
      old := fun b hb _ => hg.block b hb
      os := hg.os
      tape := hg.tape
      output := hg.output
      drawn := hg.drawn
      size := hg.size }

theorem meets_lib {P : Program} {E : Env} {f : FuncId} {vals : List Value} {v : Value} {r : AV} (he : ∀ args w, (callFunc f args).run P w = .ok (.enter f args) w) (hr : ∀ A φ w, CA A φ w r v) (hi : r.ids = [])
    (h : ∀ w, E.gi w → Calls P f vals.toArray w fun e w' => e = .returned v ∧ Grown E w w') : Meets P E f (vals.map fun x => .t (.v x)) [] r [] :=
  meets_lib2 (ids_plain vals) he hr hi fun A φ w args gi alt hargs => by
    have e : args = vals.toArray := by rw [← cas_plain hargs]
    subst e
    exact h w gi

end Go.Proofs.YtbkchhjdjijhkaaDoor
