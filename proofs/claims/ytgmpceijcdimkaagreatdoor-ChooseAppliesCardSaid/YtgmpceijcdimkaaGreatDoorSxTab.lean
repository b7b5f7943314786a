/- Tables that the program lays: what is known of all worlds, out of a row's list. No statement of a seat is proved here. -/
import Derived.Test.YtgmpceijcdimkaaGreatDoorSxRow
import Derived.Lib.LaidTab
import Derived.Stop.LaidErr
set_option linter.unusedSimpArgs false
set_option linter.unusedVariables false
namespace Go.Sx
open Go.ChangeShapes Go.WideShapes Go.ChangeAt Go.RowKit

/-- The tables' blocks hold their numbers; the blocks of errors hold errors. -/
def C8m (tabs : List (Nat × List Value)) (ifs : List Nat) : Env where
 gi w := (∀ p ∈ tabs, ∃ t fr, w.heap[p.1]? = some (.cells p.2.toArray t fr)) ∧ (∀ g ∈ ifs, ∃ te pe, w.cell? ⟨g, 0, none⟩ = some (.iface te pe))
 gb b := b ∈ tabs.map (·.1) ∨ b ∈ ifs
 cnt := False
 stable w w' h hg := by
  refine ⟨fun p hp => ?_, fun g hi => ?_⟩
  ·obtain ⟨t, fr, e⟩ := hg.1 p hp
   exact ⟨t, fr, (h p.1 (Or.inl (List.mem_map_of_mem hp))).trans e⟩
  ·obtain ⟨te, pe, e⟩ := hg.2 g hi
   exact ⟨te, pe, by rw [B8l (h g (Or.inr hi)) 0]; exact e⟩

theorem A85 {tabs : List (Nat × List Value)} {ifs : List Nat} {w : World} (h : (C8m tabs ifs).gi w) {g : Nat} {vs : List Value} (hm : (g, vs) ∈ tabs) (i : Nat) : w.cell? ⟨g, i, none⟩ = vs[i]? := by
 obtain ⟨t, fr, e⟩ := h.1 _ hm
 simp only [World.cell?, e]; simp

theorem E3d {tabs : List (Nat × List Value)} {ifs : List Nat} {w : World} (h : (C8m tabs ifs).gi w) : ∀ b, (C8m tabs ifs).gb b → b < w.heap.size := by
 intro b hb
 rcases hb with hb | hb
 ·obtain ⟨p, hp, rfl⟩ := List.mem_map.1 hb
  obtain ⟨t, fr, e⟩ := h.1 p hp
  exact A88 e
 ·obtain ⟨te, pe, e⟩ := h.2 b hb
  unfold World.cell? at e
  split at e
  ·rename_i hc; exact A88 hc
  ·cases e

theorem D46 {P : Program} {l : List (String × DataW Unit)} {w : World} (hn : (l.filter fun x => x.2.handleName?.isSome).isEmpty = true) (h : laidMetH P l w) : laidMet P l w := by
 unfold laidMetH at h
 rw [List.isEmpty_iff.1 hn] at h
 exact h

end Go.Sx
