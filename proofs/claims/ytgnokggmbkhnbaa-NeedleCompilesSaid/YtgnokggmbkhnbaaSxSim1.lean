/- The operations that make no rows: what they do in the machine is what their slim twins do. No statement of a seat is proved here. -/
import Derived.Test.YtgnokggmbkhnbaaSxSlim
set_option linter.unusedSimpArgs false
set_option linter.unusedVariables false
namespace Go.Sx
section
variable {P : Program} {E : Env} {F : Frm} {sto : Nat → Option Ob} {w : World} {A : Nat → Prop} {φ : Nat → Nat}

theorem CAs.drop {xs : List AV} {ys : List Value} (h : CAs A φ w xs ys) (k : Nat) : CAs A φ w (xs.drop k) (ys.drop k) := by
  rw [CAs.iff] at h ⊢
  refine ⟨by simp [h.1], fun i x hx => ?_⟩
  rw [List.getElem?_drop] at hx ⊢
  exact h.2 _ x hx

theorem CAs.take {xs : List AV} {ys : List Value} (h : CAs A φ w xs ys) (k : Nat) : CAs A φ w (xs.take k) (ys.take k) := by
  rw [CAs.iff] at h ⊢
  refine ⟨by simp [h.1], fun i x hx => ?_⟩
  rw [List.getElem?_take] at hx ⊢
  split at hx
  · rename_i hi; rw [if_pos hi]; exact h.2 _ x hx
  · simp at hx

theorem CAs.append {xs xs' : List AV} {ys ys' : List Value} (h : CAs A φ w xs ys) (h' : CAs A φ w xs' ys') : CAs A φ w (xs ++ xs') (ys ++ ys') := by
  induction xs generalizing ys with
  | nil => simp only [CAs] at h; subst h; simpa using h'
  | cons x xs ih =>
    simp only [CAs] at h; obtain ⟨z, zs, rfl, h1, h2⟩ := h
    simp only [List.cons_append, CAs]
    exact ⟨z, zs ++ ys', rfl, h1, ih h2⟩

theorem CAs.splice {xs vs : List AV} {ys us : List Value} (h : CAs A φ w xs ys) (h' : CAs A φ w vs us) (k : Nat) : CAs A φ w (splice xs k vs) (splice ys k us) := by
  unfold Sx.splice
  rw [h'.length]
  exact ((h.take k).append h').append (h.drop _)

/-- The cells of trees. -/
theorem CCells.toCAs {b : Nat} : ∀ {cs : List T} {o : Nat}, CCells A w b o cs → ∃ ys : List Value, CAs A φ w (cs.map .t) ys ∧ ys.length = cs.length ∧ ∀ j v, ys[j]? = some v → w.cell? ⟨b, o + j, none⟩ = some v
  | [], _, _ => ⟨[], by simp [CAs], rfl, by simp⟩
  | c :: cs, o, h => by
    simp only [CCells] at h
    obtain ⟨⟨y, hy, hc⟩, hr⟩ := h
    obtain ⟨ys, h1, h2, h3⟩ := CCells.toCAs hr
    refine ⟨y :: ys, ?_, by simp [h2], fun j v hv => ?_⟩
    · simp only [List.map_cons, CAs]; exact ⟨y, ys, rfl, by simpa only [CA] using hc, h1⟩
    · cases j with
      | zero => simp at hv; subst hv; simpa using hy
      | succ j => simp at hv; have := h3 j v hv; rwa [show o + 1 + j = o + (j + 1) from by omega] at this

theorem AV.one_cell {x : AV} {y : Value} (h1 : x.one = true) (h : CA A φ w x y) : y.oneCell' = true ∧ y.cells = #[y] := by
  have key : y.oneCell' = true := by
    cases x with
    | t x => exact CT.oneCell (A := A) (w := w) (by simpa only [CA] using h)
    | ag cs => simp [AV.one] at h1
    | tp cs => simp [AV.one] at h1
    | undef => simp [AV.one] at h1
    | ptr i o => simp only [CA] at h; rw [h]; rfl
    | ept i s j o => simp only [CA] at h; rw [h]; rfl
    | ipt cs => simp only [CA] at h; obtain ⟨b, o, rfl, _⟩ := h; rfl
    | own i s o l r => simp only [CA] at h; obtain ⟨a, c, rfl, _⟩ := h; rfl
    | fn f a b => simp only [CA] at h; obtain ⟨u, v, rfl, _⟩ := h; rfl
  exact ⟨key, by cases y <;> simp_all [Value.oneCell', Value.cells]⟩

theorem cells_ok {x : AV} {y : Value} (hx : x.cells.all AV.one = true) (h : CA A φ w x y) : CAs A φ w x.cells y.cells.toList ∧ ∀ u ∈ y.cells.toList, u.oneCell' = true := by
  by_cases hg : ∃ cs, x = .ag cs
  · obtain ⟨cs, rfl⟩ := hg
    simp only [CA] at h; obtain ⟨ys, rfl, h⟩ := h
    simp only [AV.cells] at hx ⊢
    refine ⟨h, fun u hu => ?_⟩
    obtain ⟨z, hz, hc⟩ := CAs.mem h u hu
    exact (AV.one_cell (List.all_eq_true.1 hx z hz) hc).1
  · have hc : x.cells = [x] := by cases x <;> simp_all [AV.cells]
    rw [hc] at hx ⊢
    have h1 := AV.one_cell (by simpa using hx) h
    rw [h1.2]
    exact ⟨by simp only [CAs]; exact ⟨y, [], rfl, h, rfl⟩, by simp [h1.1]⟩

theorem run_loadVar {t : TypeId} {d : TypeDesc} {n : Nat} (hu : P.underlying t = some d) (hs : sizeT P t = some n) (a : Addr) (vs : List Value) (h : ∀ j v, vs[j]? = some v → w.cell? (a.add j) = some v)
    (hl : if isAggD d then vs.length = n else vs ≠ []) : (loadVar t a).run P w = .ok (packV (isAggD d) vs) w := by
  have ha : aggT P t = isAggD d := by simp [aggT, hu]
  simp only [loadVar, Sem.run_bind, run_isAgg (t := t) (by rw [hu]; rfl), Result.andThen_ok, ha]
  cases hd : isAggD d with
  | true =>
    simp only [hd, if_true] at hl
    simp only [if_true, Sem.run_bind, run_sizeOf hs, Result.andThen_ok, ← hl, run_loadCells_list (P := P) w a vs h, Sem.run_pure, packV]
  | false =>
    simp only [hd, Bool.false_eq_true, if_false] at hl
    cases vs with
    | nil => exact absurd rfl hl
    | cons v vs =>
      have h0 := h 0 v rfl
      rw [show a.add 0 = a from rfl] at h0
      simp [packV, h0]

theorem addr_add (b o j : Nat) : (⟨b, o, none⟩ : Addr).add j = ⟨b, o + j, none⟩ := by
  unfold Addr.add; split <;> simp_all

theorem packA_ok {agg : Bool} {n : Nat} {cs : List AV} {ys : List Value} {x : AV} (h : CAs A φ w cs ys) (hp : packA agg n cs = some x) :
    ∃ vs, (∀ (j : Nat) v, vs[j]? = some v → ys[j]? = some v) ∧ (if agg then vs.length = n else vs ≠ []) ∧ CA A φ w x (packV agg vs) ∧ ∀ id ∈ x.ids, id ∈ idsL cs := by
  have idsL_take : ∀ (k : Nat) (l : List AV) (i : Nat), i ∈ idsL (l.take k) → i ∈ idsL l := by
    intro k l
    induction l generalizing k with
    | nil => intro i hi; simp at hi; exact hi
    | cons a l ih =>
      intro i hi
      cases k with
      | zero => simp [idsL] at hi
      | succ k =>
        simp only [List.take_succ_cons, idsL, List.mem_append] at hi ⊢
        exact hi.imp (fun h => h) (ih k i)
  cases agg with
  | true =>
    simp only [packA, if_true] at hp
    split at hp
    · rename_i hn
      injection hp with hp; subst hp
      refine ⟨ys.take n, fun j v hv => ?_, ?_, ?_, fun id hid => idsL_take n cs id (by simpa only [AV.ids] using hid)⟩
      · rw [List.getElem?_take] at hv; split at hv
        · exact hv
        · simp at hv
      · simp [h.length]; omega
      · simp only [packV, if_true, CA]
        exact ⟨_, rfl, by simpa using h.take n⟩
    · simp at hp
  | false =>
    simp only [packA, Bool.false_eq_true, if_false] at hp
    obtain ⟨y, hy, hc⟩ := h.get hp
    refine ⟨[y], fun j v hv => ?_, by simp, by simpa [packV] using hc, fun id hid => ?_⟩
    · cases j with
      | zero => simp at hv; subst hv; exact hy
      | succ j => simp at hv
    · cases cs with
      | nil => simp at hp
      | cons c cs => simp at hp; subst hp; simp [idsL, hid]

theorem packT_eq (agg : Bool) (n : Nat) (cs : List T) : packT agg n cs = packA agg n (cs.map .t) := by
  cases agg <;> simp [packT, packA, List.map_take]

theorem idsL_map_t (cs : List T) : idsL (cs.map .t) = [] := by
  induction cs with
  | nil => rfl
  | cons c cs ih => simp [idsL, AV.ids, ih]

theorem idsL_drop {l : List AV} {k i : Nat} (h : i ∈ idsL (l.drop k)) : i ∈ idsL l := by
  induction l generalizing k with
  | nil => simpa using h
  | cons a l ih =>
    cases k with
    | zero => simpa using h
    | succ k => simp only [List.drop_succ_cons] at h; simp only [idsL, List.mem_append]; exact Or.inr (ih h)

theorem idsL_mem {l : List AV} {i : Nat} : i ∈ idsL l ↔ ∃ x ∈ l, i ∈ x.ids := by
  induction l with
  | nil => simp [idsL]
  | cons a l ih => simp [idsL, ih]

theorem idsL_splice {l vs : List AV} {k i : Nat} (h : i ∈ idsL (splice l k vs)) : i ∈ idsL l ∨ i ∈ idsL vs := by
  rw [idsL_mem] at h
  obtain ⟨x, hx, hi⟩ := h
  simp only [splice, List.mem_append] at hx
  rcases hx with (hx | hx) | hx
  · exact Or.inl (idsL_mem.2 ⟨x, List.mem_of_mem_take hx, hi⟩)
  · exact Or.inr (idsL_mem.2 ⟨x, hx, hi⟩)
  · exact Or.inl (idsL_mem.2 ⟨x, List.mem_of_mem_drop hx, hi⟩)

theorem ids_cells {x : AV} : idsL x.cells = x.ids := by
  cases x <;> simp [AV.cells, AV.ids, idsL]

theorem cell_of_heap_get {b o : Nat} {ys : Array Value} {e : TypeId} {fz : Nat × Nat} (h : w.heap[b]? = some (.cells ys e fz)) : w.cell? ⟨b, o, none⟩ = ys[o]? := by
  simp [World.cell?, h]

/-- Loading: by the kind of the pointer. -/
theorem sim_load (h : RS E F sto w A φ) {t : TypeId} {d : TypeDesc} {n id : Nat} (hu : P.underlying t = some d) (hs : sizeT P t = some n) {px : SV} {p : AV} {pv : Value} (hp : CA A φ w p pv)
    {x : AV} {wr : List (Nat × Ob)} (hc : core id (.load (isAggD d) n px) (fun _ => p) sto = some (x, wr)) :
    wr = [] ∧ ∃ v, (Instr.loadAt t pv).run P w = .ok v w ∧ CA A φ w x v ∧ ∀ i ∈ x.ids, (sto i).isSome = true := by
  have done : ∀ {b o : Nat} {cs : List AV} {ys : List Value}, pv = .pointer (some ⟨b, o, none⟩) → CAs A φ w cs ys → (∀ (j : Nat) v, ys[j]? = some v → w.cell? ⟨b, o + j, none⟩ = some v) → (∀ i ∈ idsL cs, (sto i).isSome = true) → packA (isAggD d) n cs = some x →
      ∃ v, (Instr.loadAt t pv).run P w = .ok v w ∧ CA A φ w x v ∧ ∀ i ∈ x.ids, (sto i).isSome = true := by
    intro b o cs ys hpv hcs hys hi hpk
    obtain ⟨vs, h1, h2, h3, h4⟩ := packA_ok hcs hpk
    refine ⟨_, ?_, h3, fun i hx => hi i (h4 i hx)⟩
    simp only [Instr.loadAt, hpv, Instr.sureAddr, Sem.run_bind, Sem.run_pure, Result.andThen_ok]
    exact run_loadVar hu hs _ vs (fun j v hv => by rw [addr_add]; exact hys j v (h1 j v hv)) h2
  have rows : ∀ {i sz j off : Nat} {es : List (List T)}, p = .ept i sz j off → CRows A w sz (φ i) 0 es → (match es[j]? with
        | some e => (packT (isAggD d) n (e.drop off)).map fun v => (v, ([] : List (Nat × Ob)))
        | none => none) = some (x, wr) → wr = [] ∧ ∃ v, (Instr.loadAt t pv).run P w = .ok v w ∧ CA A φ w x v ∧ ∀ i ∈ x.ids, (sto i).isSome = true := by
    intro i sz j off es hpe hr hm
    cases he : es[j]? with
    | none => simp [he] at hm
    | some e =>
      simp only [he, Option.map_eq_some_iff, packT_eq] at hm
      obtain ⟨v, hv, hv2⟩ := hm
      simp at hv2; obtain ⟨rfl, rfl⟩ := hv2
      have h1 := (hr.get he).2.drop off
      obtain ⟨ys, g1, g2, g3⟩ := h1.toCAs (φ := φ)
      subst hpe; simp only [CA] at hp
      exact ⟨rfl, done hp g1 (fun j' v hv => by have := g3 j' v hv; rwa [Nat.zero_add] at this) (fun i hi => by rw [idsL_map_t] at hi; simp at hi) hv⟩
  cases p with
  | ptr i off =>
    simp only [core] at hc
    cases ho : sto i with
    | none => simp [ho] at hc
    | some o =>
      cases o with
      | box cs =>
        simp only [ho, Option.map_eq_some_iff] at hc
        obtain ⟨v, hv, hv2⟩ := hc
        simp at hv2; obtain ⟨rfl, rfl⟩ := hv2
        have hob := h.obj i _ ho
        simp only [CO] at hob
        obtain ⟨ys, e, g1, g2, g3⟩ := hob
        simp only [CA] at hp
        exact ⟨rfl, done hp (g2.drop off) (fun j v hv => by rw [cell_of_heap_get g1]; rw [List.getElem?_drop] at hv; simpa using hv) (fun k hk => h.nod i _ ho k (idsL_drop hk)) hv⟩
      | _ => simp [ho] at hc
  | ept i sz j off =>
    simp only [core] at hc
    cases ho : sto i with
    | none => simp [ho] at hc
    | some o =>
      have hob := h.obj i _ ho
      cases o with
      | row rsz r es =>
        cases r with
        | false => simp [ho] at hc
        | true =>
          simp only [ho] at hc
          simp only [CO] at hob
          split at hc
          · rename_i hsz; subst hsz
            exact rows rfl (hob.2 trivial).2 hc
          · simp at hc
      | fro rsz es =>
        simp only [ho] at hc
        simp only [CO] at hob
        split at hc
        · rename_i hsz; subst hsz
          exact rows rfl hob.2 hc
        · simp at hc
      | _ => simp [ho] at hc
  | ipt cs =>
    simp only [core, Option.map_eq_some_iff, packT_eq] at hc
    obtain ⟨v, hv, hv2⟩ := hc
    simp at hv2; obtain ⟨rfl, rfl⟩ := hv2
    simp only [CA] at hp
    obtain ⟨b, o, hpv, hA, hcc⟩ := hp
    obtain ⟨ys, g1, g2, g3⟩ := hcc.toCAs (φ := φ)
    exact ⟨rfl, done hpv g1 g3 (fun i hi => by rw [idsL_map_t] at hi; simp at hi) hv⟩
  | _ => simp [core] at hc

end
end Go.Sx
