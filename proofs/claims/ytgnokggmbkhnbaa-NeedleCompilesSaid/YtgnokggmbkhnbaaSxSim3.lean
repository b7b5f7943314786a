/- New variables and built values. No statement of a seat is proved here. -/
import Derived.Test.YtgnokggmbkhnbaaSxSim2
set_option linter.unusedSimpArgs false
set_option linter.unusedVariables false
namespace Go.Sx
section
variable {P : Program} {E : Env} {F : Frm} {sto : Nat → Option Ob} {w : World} {A : Nat → Prop} {φ : Nat → Nat}

theorem zero_ok {t : TypeId} {z : List T} (h : zeroT P t = some z) : ∃ zv, (∀ w, (zeroValue t).run P w = .ok zv w) ∧ (∀ A φ w, CAs A φ w (z.map .t) zv.cells.toList) ∧ (∀ u ∈ zv.cells.toList, u.oneCell' = true) ∧ z = zv.cells.toList.map .v := by
  unfold zeroT at h
  cases hi : P.info? t with
  | none => simp [hi] at h
  | some i =>
    simp only [hi] at h
    cases hz : i.zero with
    | none => simp [hz] at h
    | some zv =>
      simp only [hz] at h
      split at h
      · rename_i hc
        injection h with h; subst h
        have h1 : ∀ u ∈ zv.cells.toList, u.oneCell' = true := fun u hu => (Array.all_eq_true_iff_forall_mem.1 hc) u (Array.mem_toList_iff.1 hu)
        refine ⟨zv, fun w => by simp [zeroValue, typeInfo, hi, hz], fun A φ w => ?_, h1, rfl⟩
        generalize zv.cells.toList = l at h1
        induction l with
        | nil => simp [CAs]
        | cons a l ih =>
          simp only [List.map_cons, CAs]
          exact ⟨a, l, rfl, by simp [CA, CT, h1 a], ih fun u hu => h1 u (by simp [hu])⟩
      · simp at h

theorem isFresh_none {id : Nat} (h : isFresh sto id = true) : sto id = none := by
  unfold isFresh at h; simp only [Bool.and_eq_true] at h; simpa using h.1

theorem isFresh_ge {id : Nat} (h : isFresh sto id = true) : 100 ≤ id := by
  unfold isFresh at h; simp only [Bool.and_eq_true, decide_eq_true_eq] at h; exact h.2

theorem goes_new (h : RS E F sto w A φ) (o : Obj) : Goes A A w (w.alloc o) := goes_alloc h.alt o

theorem new_var (h : RS E F sto w A φ) {id : Nat} (hn : isFresh sto id = true) {cs : List AV} {ys : Array Value} (e : TypeId) (hc : CAs A φ w cs ys.toList) (h1 : ∀ u ∈ ys.toList, u.oneCell' = true) (hi : ∀ j ∈ idsL cs, (sto j).isSome = true) :
    Did E F sto A φ w (.ptr id 0) (.pointer (some ⟨w.heap.size, 0, none⟩)) (applyWr sto [(id, .box cs)]) (w.alloc (.cells ys e)) A (upd φ id w.heap.size) := by
  have hn' : sto id = none := isFresh_none hn
  have hne : ∀ j, (sto j).isSome = true → j ≠ id := fun j hj e => by rw [e, hn'] at hj; simp at hj
  refine ⟨h.alloc hn' (isFresh_ge hn) ys e _ hi ?_, goes_new h _, fun j hj => upd_ne _ _ (hne j hj), fun j hj => applyWr_mono hj, by simp only [CA, upd_same], ?_⟩
  · simp only [CO]
    exact ⟨ys, e, by show (w.heap.push _)[w.heap.size]? = _; simp, CAs.goes (goes_new h _) _ _ (fun j hj => upd_ne _ _ (hne j (hi j hj))) hc, h1⟩
  · intro i hi; simp [AV.ids] at hi; subst hi; simp [applyWr]

theorem foldl_splice (vs : List Value) : ∀ (k off : Nat) (cells : Array Value), off + k + vs.length ≤ cells.size →
    ((vs.zipIdx k).foldl (fun cs p => cs.setIfInBounds (off + p.2) p.1) cells).toList = splice cells.toList (off + k) vs := by
  induction vs with
  | nil => intro k off cells _; simp [splice]
  | cons v vs ih =>
    intro k off cells hl
    simp only [List.length_cons] at hl
    simp only [List.zipIdx_cons, List.foldl_cons]
    rw [ih (k + 1) off (cells.setIfInBounds (off + k) v) (by simp; omega)]
    apply List.ext_getElem?
    intro i
    have hL : off + (k + 1) + vs.length ≤ (cells.setIfInBounds (off + k) v).toList.length := by simp; omega
    have hR : off + k + (v :: vs).length ≤ cells.toList.length := by simp; omega
    by_cases h1 : i < off + k
    · rw [splice_get_lo hL (by omega), splice_get_lo hR h1]
      simp only [Array.toList_setIfInBounds]
      rw [List.getElem?_set_ne (by omega)]
    · by_cases h2 : i = off + k
      · subst h2
        rw [splice_get_lo hL (by omega), splice_get_mid hR (by omega) (by simp)]
        simp only [Array.toList_setIfInBounds, Nat.sub_self, List.getElem?_cons_zero]
        rw [List.getElem?_set_self (by simp; omega)]
      · by_cases h3 : i < off + (k + 1) + vs.length
        · rw [splice_get_mid hL (by omega) h3, splice_get_mid hR (by omega) (by simp; omega)]
          rw [show i - (off + k) = (i - (off + (k + 1))) + 1 from by omega, List.getElem?_cons_succ]
        · rw [splice_get_hi hL (by omega), splice_get_hi hR (by simp; omega)]
          simp only [Array.toList_setIfInBounds]
          rw [List.getElem?_set_ne (by omega)]

theorem fill_one (v : Value) (off : Nat) (cells : Array Value) (h : off + v.cells.size ≤ cells.size) :
    (v.cells.zipIdx.foldl (fun cs p => cs.setIfInBounds (off + p.2) p.1) cells).toList = splice cells.toList off v.cells.toList := by
  rw [← Array.foldl_toList, Array.toList_zipIdx]
  exact foldl_splice v.cells.toList 0 off cells (by simpa using h)

/-- One part laid over the cells. -/
theorem fill_step {cs : List AV} {cells : Array Value} {x : AV} {v : Value} {off sz : Nat} {place : Nat → Option (Nat × Nat)} {i : Nat} (hpl : place i = some (off, sz)) (hc : CAs A φ w cs cells.toList) (hv : CA A φ w x v)
    (hcond : x.cells.length = sz ∧ off + sz ≤ cs.length ∧ x.cells.all AV.one = true) (rest : List (Nat × Value)) :
    ∃ cells', Instr.fill place cells ((i, v) :: rest) = Instr.fill place cells' rest ∧ CAs A φ w (splice cs off x.cells) cells'.toList := by
  obtain ⟨h1, h2, h3⟩ := hcond
  obtain ⟨c1, c2⟩ := cells_ok h3 hv
  have hn : v.cells.size = sz := by rw [← h1, ← c1.length]; simp
  have hl : cells.size = cs.length := by have := hc.length; simpa using this
  refine ⟨v.cells.zipIdx.foldl (fun cs p => cs.setIfInBounds (off + p.2) p.1) cells, ?_, ?_⟩
  · conv => lhs; unfold Instr.fill
    simp only [hpl]
    rw [if_neg]
    simp only [ne_eq, Bool.or_eq_true, decide_eq_true_eq, not_or, Decidable.not_not]
    exact ⟨hn, by omega⟩
  · rw [fill_one v off cells (by omega)]
    exact hc.splice c1 off

theorem ids_splice_ok {cs : List AV} {x : AV} {off : Nat} (h1 : ∀ j ∈ idsL cs, (sto j).isSome = true) (h2 : ∀ j ∈ x.ids, (sto j).isSome = true) : ∀ j ∈ idsL (splice cs off x.cells), (sto j).isSome = true := by
  intro j hj
  rcases idsL_splice hj with hj | hj
  · exact h1 j hj
  · rw [ids_cells] at hj; exact h2 j hj

section
variable {G : Nat → Option (List T)} {st : St} {n : Nat} {a : Act}

theorem fill_struct (hG : GOK E G) (h : RS E F st.sto w A φ) (r : RE st n a w A φ) (fs : Array Field) (place : Nat → Option (Nat × Nat)) (hpl : ∀ (i : Nat) (f : Field), fs[i]? = some f → ∀ m, sizeT P f.type = some m → place i = some (f.offset, m)) :
    ∀ (ps : List (Nat × Operand)) (ps' : List (Nat × Nat × SV)) (cs : List AV) (cells : Array Value) (res : List AV), slimPs P G fs ps = some ps' → CAs A φ w cs cells.toList → (∀ j ∈ idsL cs, (st.sto j).isSome = true) → fillP (·.ev st.env) cs ps' = some res →
      ∃ cells', Instr.fill place cells (ps.map fun p => (p.1, a.eval p.2)) = some cells' ∧ CAs A φ w res cells'.toList ∧ ∀ j ∈ idsL res, (st.sto j).isSome = true
  | [], ps', cs, cells, res, h1, h2, h3, h4 => by
    simp only [slimPs, Option.some.injEq] at h1; subst h1
    simp only [fillP, Option.some.injEq] at h4; subst h4
    exact ⟨cells, rfl, h2, h3⟩
  | (i, x) :: ps, ps', cs, cells, res, h1, h2, h3, h4 => by
    simp only [slimPs] at h1
    split at h1
    · rename_i f sv tl hf hx htl
      split at h1
      · rename_i m hm
        injection h1 with h1; subst h1
        simp only [fillP] at h4
        split at h4
        · rename_i hcond
          have ev := ev_ok hG h r hx
          obtain ⟨cells', e1, e2⟩ := fill_step (hpl i f hf m hm) h2 ev.1 hcond (ps.map fun p => (p.1, a.eval p.2))
          obtain ⟨c2, f1, f2⟩ := fill_struct hG h r fs place hpl ps tl _ cells' res htl e2 (ids_splice_ok h3 ev.2) h4
          exact ⟨c2, by rw [List.map_cons, e1]; exact f1, f2⟩
        · simp at h4
      · simp at h1
    · simp at h1

theorem fill_array (hG : GOK E G) (h : RS E F st.sto w A φ) (r : RE st n a w A φ) (m : Nat) :
    ∀ (ps : List (Nat × Operand)) (ps' : List (Nat × Nat × SV)) (cs : List AV) (cells : Array Value) (res : List AV), slimPa G m ps = some ps' → CAs A φ w cs cells.toList → (∀ j ∈ idsL cs, (st.sto j).isSome = true) → fillP (·.ev st.env) cs ps' = some res →
      ∃ cells', Instr.fill (fun i => some (i * m, m)) cells (ps.map fun p => (p.1, a.eval p.2)) = some cells' ∧ CAs A φ w res cells'.toList ∧ ∀ j ∈ idsL res, (st.sto j).isSome = true
  | [], ps', cs, cells, res, h1, h2, h3, h4 => by
    simp only [slimPa, Option.some.injEq] at h1; subst h1
    simp only [fillP, Option.some.injEq] at h4; subst h4
    exact ⟨cells, rfl, h2, h3⟩
  | (i, x) :: ps, ps', cs, cells, res, h1, h2, h3, h4 => by
    simp only [slimPa] at h1
    split at h1
    · rename_i sv tl hx htl
      injection h1 with h1; subst h1
      simp only [fillP] at h4
      split at h4
      · rename_i hcond
        have ev := ev_ok hG h r hx
        obtain ⟨cells', e1, e2⟩ := fill_step (place := fun i => some (i * m, m)) rfl h2 ev.1 hcond (ps.map fun p => (p.1, a.eval p.2))
        obtain ⟨c2, f1, f2⟩ := fill_array hG h r m ps tl _ cells' res htl e2 (ids_splice_ok h3 ev.2) h4
        exact ⟨c2, by rw [List.map_cons, e1]; exact f1, f2⟩
      · simp at h4
    · simp at h1

theorem run_mapM_sizes (fs : List Field) (h : ∀ f ∈ fs, (sizeT P f.type).isSome = true) (w : World) :
    (fs.mapM (fun f => do pure (f.offset, ← sizeOf f.type) : Field → Sem (Nat × Nat))).run P w = .ok (fs.map fun f => (f.offset, (sizeT P f.type).getD 0)) w := by
  induction fs with
  | nil => simp
  | cons f fs ih =>
    obtain ⟨m, hm⟩ := Option.isSome_iff_exists.1 (h f (by simp))
    simp only [List.mapM_cons, Sem.run_bind, run_sizeOf hm, Result.andThen_ok, Sem.run_pure, ih fun g hg => h g (by simp [hg]), List.map_cons, hm, Option.getD_some]

theorem sim_build (hG : GOK E G) (h : RS E F st.sto w A φ) (r : RE st n a w A φ) {t : TypeId} {ps : Array (Nat × Operand)} {so : SOp} (hs : slimOp P G (.build t ps) = some so) {id : Nat} {x : AV} {wr : List (Nat × Ob)}
    (hc : core id so (·.ev st.env) st.sto = some (x, wr)) :
    ∃ v, (Instr.build t (ps.map fun (i, x) => (i, a.eval x))).run P w = .ok v w ∧ Did E F st.sto A φ w x v (applyWr st.sto wr) w A φ := by
  simp only [slimOp] at hs
  split at hs
  · rename_i z fs hz hu
    split at hs
    · rename_i hall
      simp only [Option.map_eq_some_iff] at hs
      obtain ⟨ps', hps, rfl⟩ := hs
      simp only [core] at hc
      split at hc
      · rename_i res hres
        simp only [Option.some.injEq, Prod.mk.injEq] at hc
        obtain ⟨rfl, rfl⟩ := hc
        obtain ⟨zv, z1, z2, z3, z4⟩ := zero_ok hz
        have hall' : ∀ (f : Field), f ∈ fs.toList → (sizeT P f.type).isSome = true := fun f hf => (Array.all_eq_true_iff_forall_mem.1 hall) f (Array.mem_toList_iff.1 hf)
        have hpl : ∀ (i : Nat) (f : Field), fs[i]? = some f → ∀ m, sizeT P f.type = some m → ((fs.toList.map fun (f : Field) => (f.offset, (sizeT P f.type).getD 0)).toArray)[i]? = some (f.offset, m) := by
          intro i f hf m hm
          simp [hf, hm]
        obtain ⟨cells', f1, f2, f3⟩ := fill_struct hG h r fs (fun i => ((fs.toList.map fun (f : Field) => (f.offset, (sizeT P f.type).getD 0)).toArray)[i]?) hpl ps.toList ps' _ zv.cells res hps (z2 A φ w) (fun j hj => by rw [idsL_map_t] at hj; simp at hj) hres
        refine ⟨.agg cells', ?_, Did.same h ?_ ?_⟩
        · simp only [Instr.build, Sem.run_bind, z1, Result.andThen_ok, run_underlying hu]
          rw [Array.mapM_eq_mapM_toList]
          simp only [Sem.run_map, run_mapM_sizes fs.toList hall', Result.andThen_ok, Array.toList_map]
          rw [show (ps.toList.map fun x => match x with | (i, x) => (i, a.eval x)) = ps.toList.map fun p => (p.1, a.eval p.2) from rfl]
          rw [f1]; rfl
        · simp only [CA]; exact ⟨_, rfl, f2⟩
        · simpa only [AV.ids] using f3
      · simp at hc
    · simp at hs
  · rename_i z len e hz hu
    split at hs
    · rename_i m hm
      simp only [Option.map_eq_some_iff] at hs
      obtain ⟨ps', hps, rfl⟩ := hs
      simp only [core] at hc
      split at hc
      · rename_i res hres
        simp only [Option.some.injEq, Prod.mk.injEq] at hc
        obtain ⟨rfl, rfl⟩ := hc
        obtain ⟨zv, z1, z2, z3, z4⟩ := zero_ok hz
        obtain ⟨cells', f1, f2, f3⟩ := fill_array hG h r m ps.toList ps' _ zv.cells res hps (z2 A φ w) (fun j hj => by rw [idsL_map_t] at hj; simp at hj) hres
        refine ⟨.agg cells', ?_, Did.same h ?_ ?_⟩
        · simp only [Instr.build, Sem.run_bind, z1, Result.andThen_ok, run_underlying hu, run_sizeOf hm, Array.toList_map]
          rw [show (ps.toList.map fun x => match x with | (i, x) => (i, a.eval x)) = ps.toList.map fun p => (p.1, a.eval p.2) from rfl]
          rw [f1]; rfl
        · simp only [CA]; exact ⟨_, rfl, f2⟩
        · simpa only [AV.ids] using f3
      · simp at hc
    · simp at hs
  · simp at hs
end
end
end Go.Sx
