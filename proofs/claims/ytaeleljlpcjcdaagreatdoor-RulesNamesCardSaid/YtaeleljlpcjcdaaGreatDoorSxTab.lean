/- Tables that the program lays: what is known of all worlds, out of a row's list. No statement of a seat is proved here. -/
import Derived.Test.YtaeleljlpcjcdaaGreatDoorSxRow
import Derived.Lib.LaidTab
import Derived.Stop.LaidErr
set_option linter.unusedSimpArgs false
set_option linter.unusedVariables false
namespace Go.Sx
open Go.ChangeShapes Go.WideShapes Go.ChangeAt Go.RowKit

/-- The tables' blocks hold their numbers; the blocks of errors hold errors. -/
def tabEnv (tabs : List (Nat × List Value)) (ifs : List Nat) : Env where
  gi w := (∀ p ∈ tabs, ∃ t fr, w.heap[p.1]? = some (.cells p.2.toArray t fr)) ∧ (∀ g ∈ ifs, ∃ te pe, w.cell? ⟨g, 0, none⟩ = some (.iface te pe))
  gb b := b ∈ tabs.map (·.1) ∨ b ∈ ifs
  cnt := False
  stable w w' h hg := by
    refine ⟨fun p hp => ?_, fun g hi => ?_⟩
    · obtain ⟨t, fr, e⟩ := hg.1 p hp
      exact ⟨t, fr, (h p.1 (Or.inl (List.mem_map_of_mem hp))).trans e⟩
    · obtain ⟨te, pe, e⟩ := hg.2 g hi
      exact ⟨te, pe, by rw [cell_of_heap (h g (Or.inr hi)) 0]; exact e⟩

theorem tab_get {tabs : List (Nat × List Value)} {ifs : List Nat} {w : World} (h : (tabEnv tabs ifs).gi w) {g : Nat} {vs : List Value} (hm : (g, vs) ∈ tabs) (i : Nat) : w.cell? ⟨g, i, none⟩ = vs[i]? := by
  obtain ⟨t, fr, e⟩ := h.1 _ hm
  simp only [World.cell?, e]; simp

theorem tabGOK {tabs : List (Nat × List Value)} {ifs : List Nat} {G : Nat → Option (List T)} (h : ∀ g cs, G g = some cs → ∃ vs, (g, vs) ∈ tabs ∧ cs = vs.map .v ∧ vs.all (·.oneCell') = true) : GOK (tabEnv tabs ifs) G := by
  intro g cs hg
  obtain ⟨vs, hm, rfl, ho⟩ := h g cs hg
  refine ⟨Or.inl (List.mem_map_of_mem (f := (·.1)) hm), fun A w gi hA => ?_⟩
  refine ccells_of (vs := vs) ?_ fun i hi => ?_
  · clear hm hg
    induction vs with
    | nil => simp [CTs]
    | cons v vs ih =>
      simp only [List.all_cons, Bool.and_eq_true] at ho
      simp only [List.map_cons, CTs, CT]
      exact ⟨v, vs, rfl, ⟨rfl, ho.1⟩, ih ho.2⟩
  · rw [Nat.zero_add, tab_get gi hm i, List.getElem?_eq_getElem hi]

theorem tabIs_of {P : Program} {tabs : List (Nat × List Value)} {ifs : List Nat} {w : World} (h : (tabEnv tabs ifs).gi w) {g : Nat} {name : String} {k : IntKind} {zs : List Int} (hm : (g, zs.map fun z => Value.int k z) ∈ tabs) (hg : P.globalNamed name = some g) :
    Lib.TabIs P w name k zs := by
  obtain ⟨t, fr, e⟩ := h.1 _ hm
  simp only [Lib.TabIs, World.var?, hg, Option.bind_some, e]

theorem laid_drop {P : Program} {w : World} : ∀ (k : Nat) {l : List (String × DataW Unit)}, laidMet P l w → laidMet P (l.drop k) w
  | 0, _, h => h
  | k + 1, [], h => h
  | k + 1, x :: l, h => laid_drop k (l := l) (laidMet.tail h)

/-- A listed table: its block's cells. -/
theorem tab_laid {P : Program} {W : World} {name : String} {k : IntKind} {zs : List Int} {rest : List (String × DataW Unit)} {g : Nat} {t e : TypeId} {n : Nat}
    (hg : P.globalNamed name = some g) (hty : (P.globals[g]?).map (·.type) = some t) (ht : P.underlying t = some (.array n e)) (he : P.underlying e = some (.int k)) (hce : P.cellsOf e = 1) (hct : P.cellsOf t = n)
    (h : laidMet P ((name, Lib.tabData k zs) :: rest) W) : ∃ t fr, W.heap[g]? = some (.cells (zs.map fun z => Value.int k z).toArray t fr) := by
  have h1 := Lib.tabIs_of_head hg hty ht he hce hct h
  simp only [Lib.TabIs, World.var?, hg, Option.bind_some] at h1
  split at h1
  · rename_i cs t fr hc
    injection h1 with h1; subst h1
    exact ⟨t, fr, hc⟩
  · cases h1

/-- The closed facts on a listed table, in one. -/
def tabOkB (P : Program) (name : String) (g : Nat) (k : IntKind) : Bool :=
  (P.globalNamed name == some g) && (match (P.globals[g]?).map (·.type) with
    | some t => (match P.underlying t with
      | some (.array n e) => (match P.underlying e with
        | some (.int k') => (k' == k) && ((P.cellsOf e == 1) && (P.cellsOf t == n))
        | _ => false)
      | _ => false)
    | none => false)

theorem tab_laid2 {P : Program} {W : World} {name : String} {k : IntKind} {zs : List Int} {rest : List (String × DataW Unit)} {g : Nat} (hb : tabOkB P name g k = true)
    (h : laidMet P ((name, Lib.tabData k zs) :: rest) W) : ∃ t fr, W.heap[g]? = some (.cells (zs.map fun z => Value.int k z).toArray t fr) := by
  simp only [tabOkB, Bool.and_eq_true, beq_iff_eq] at hb
  obtain ⟨h1, h2⟩ := hb
  split at h2
  · rename_i t ht
    split at h2
    · rename_i n e hu
      split at h2
      · rename_i k' he
        simp only [Bool.and_eq_true, beq_iff_eq] at h2
        obtain ⟨rfl, h3, h4⟩ := h2
        exact tab_laid h1 ht hu he h3 h4 h
      · cases h2
    · cases h2
  · cases h2

def ifOkB (P : Program) (name : String) (g : Nat) : Bool :=
  (P.globalNamed name == some g) && (match (P.globals[g]?).map (·.type) with
    | some t => (match P.underlying t with
      | some (.interface _) => true
      | _ => false)
    | none => false)

/-- A listed error. -/
theorem if_laid {P : Program} {W : World} {name nm : String} {d : DataW Unit} {rest : List (String × DataW Unit)} {g : Nat} (hb : ifOkB P name g = true)
    (h : laidMet P ((name, .iface nm d) :: rest) W) : ∃ te pe, W.cell? ⟨g, 0, none⟩ = some (.iface te pe) := by
  simp only [ifOkB, Bool.and_eq_true, beq_iff_eq] at hb
  obtain ⟨h1, h2⟩ := hb
  split at h2
  · rename_i t ht
    split at h2
    · rename_i ms hu
      obtain ⟨ps, ⟨g0, t0, cs0, f0, p0, q0, hg0, ht0, hv0, hd0, _, _⟩, _⟩ := h
      obtain rfl := Option.some.inj (h1.symm.trans hg0)
      obtain rfl := Option.some.inj (ht.symm.trans ht0)
      obtain ⟨_, u, v, hcs, _⟩ := iface_of_trod hu hd0
      refine ⟨u, v, ?_⟩
      rw [World.var?_cell hg0 hv0 0]
      obtain ⟨l⟩ := cs0
      simp only at hcs
      subst hcs
      rfl
    · cases h2
  · cases h2

theorem gb_lt {tabs : List (Nat × List Value)} {ifs : List Nat} {w : World} (h : (tabEnv tabs ifs).gi w) : ∀ b, (tabEnv tabs ifs).gb b → b < w.heap.size := by
  intro b hb
  rcases hb with hb | hb
  · obtain ⟨p, hp, rfl⟩ := List.mem_map.1 hb
    obtain ⟨t, fr, e⟩ := h.1 p hp
    exact heap_lt e
  · obtain ⟨te, pe, e⟩ := h.2 b hb
    unfold World.cell? at e
    split at e
    · rename_i hc; exact heap_lt hc
    · cases e

theorem laid_plain {P : Program} {l : List (String × DataW Unit)} {w : World} (hn : (l.filter fun x => x.2.handleName?.isSome).isEmpty = true) (h : laidMetH P l w) : laidMet P l w := by
  unfold laidMetH at h
  rw [List.isEmpty_iff.1 hn] at h
  exact h

end Go.Sx
