/- Rows: made, appended to, cut. No statement of a seat is proved here. -/
import Derived.Test.YtgnokggmbkhnbaaSxSim4
set_option linter.unusedSimpArgs false
set_option linter.unusedVariables false
namespace Go.Sx
section
variable {P : Program} {E : Env} {F : Frm} {sto : Nat → Option Ob} {w : World} {A : Nat → Prop} {φ : Nat → Nat}

theorem CRows.of {sz b : Nat} : ∀ {es : List (List T)} {o : Nat}, (∀ e ∈ es, e.length = sz) → CCells A w b o es.flatten → CRows A w sz b o es
  | [], _, _, _ => by simp only [CRows]
  | e :: es, o, hl, h => by
    simp only [List.flatten_cons, CCells.append] at h
    rw [hl e (by simp)] at h
    simp only [CRows]
    exact ⟨⟨hl e (by simp), h.1⟩, CRows.of (fun x hx => hl x (by simp [hx])) h.2⟩

theorem CRows.lens {sz b o : Nat} {es : List (List T)} (h : CRows A w sz b o es) : ∀ e ∈ es, e.length = sz := by
  intro e he
  obtain ⟨i, hi, rfl⟩ := List.getElem_of_mem he
  exact (h.get (List.getElem?_eq_getElem hi)).1

theorem flatten_len {α : Type} {n : Nat} {es : List (List α)} (h : ∀ e ∈ es, e.length = n) : es.flatten.length = es.length * n := by
  induction es with
  | nil => simp
  | cons e es ih =>
    simp only [List.flatten_cons, List.length_append, List.length_cons, Nat.add_mul, Nat.one_mul]
    rw [ih fun x hx => h x (by simp [hx]), h e (by simp)]; omega

theorem splice_eq {α : Type} {a m b vs : List α} (hm : m.length = vs.length) : splice (a ++ (m ++ b)) a.length vs = a ++ (vs ++ b) := by
  unfold splice
  rw [List.take_left', List.append_assoc]
  · congr 2
    rw [← List.drop_drop, List.drop_left', List.drop_left' hm]
    rfl
  · rfl

theorem flatten_set {α : Type} {n : Nat} {es : List (List α)} (h : ∀ e ∈ es, e.length = n) {i : Nat} (hi : i < es.length) {ts : List α} (hts : ts.length = n) :
    (es.set i ts).flatten = splice es.flatten (i * n) ts := by
  have h1 : (es.take i).flatten.length = i * n := by
    rw [flatten_len (n := n) fun e he => h e (List.mem_of_mem_take he), List.length_take]
    congr 1; omega
  have hsplit : es = es.take i ++ es[i] :: es.drop (i + 1) := by
    rw [← List.drop_eq_getElem_cons hi, List.take_append_drop]
  rw [List.set_eq_take_append_cons_drop, if_pos hi]
  conv => rhs; rw [hsplit]
  simp only [List.flatten_append, List.flatten_cons]
  rw [← h1]
  exact (splice_eq (by rw [hts]; exact h _ (List.getElem_mem hi))).symm

section
variable {G : Nat → Option (List T)} {st : St} {n : Nat} {a : Act}

theorem fill_rows (hG : GOK E G) (h : RS E F st.sto w A φ) (r : RE st n a w A φ) (m : Nat) :
    ∀ (ps : List (Nat × Operand)) (ps' : List (Nat × SV)) (es : List (List T)) (cells : Array Value) (res : List (List T)), slimPe G ps = some ps' → (∀ e ∈ es, e.length = m) → CAs A φ w (es.flatten.map .t) cells.toList → fillR (·.ev st.env) m es ps' = some res →
      ∃ cells', Instr.fill (fun i => some (i * m, m)) cells (ps.map fun p => (p.1, a.eval p.2)) = some cells' ∧ CAs A φ w (res.flatten.map .t) cells'.toList ∧ (∀ e ∈ res, e.length = m) ∧ res.length = es.length
  | [], ps', es, cells, res, h1, h2, h3, h4 => by
    simp only [slimPe, Option.some.injEq] at h1; subst h1
    simp only [fillR, Option.some.injEq] at h4; subst h4
    exact ⟨cells, rfl, h3, h2, rfl⟩
  | (i, x) :: ps, ps', es, cells, res, h1, h2, h3, h4 => by
    simp only [slimPe] at h1
    split at h1
    · rename_i sv tl hx htl
      injection h1 with h1; subst h1
      simp only [fillR] at h4
      split at h4
      · rename_i ts hts
        split at h4
        · rename_i hcond
          have ev := ev_ok hG h r hx
          have hcells := trees_eq hts
          have hfl := flatten_len h2
          have him : i * m + m ≤ es.length * m := by have := Nat.mul_le_mul_right m hcond.2; rw [Nat.succ_mul] at this; exact this
          obtain ⟨cells', e1, e2⟩ := fill_step (place := fun i => some (i * m, m)) (i := i) rfl h3 ev.1 ⟨by rw [hcells, List.length_map]; exact hcond.1, by rw [List.length_map, hfl]; exact him, by rw [hcells]; simp [AV.one]⟩ (ps.map fun p => (p.1, a.eval p.2))
          have e3 : splice (es.flatten.map AV.t) (i * m) (sv.ev st.env).cells = ((es.set i ts).flatten.map .t) := by
            rw [flatten_set h2 hcond.2 hcond.1, hcells]
            simp [splice, List.map_take, List.map_drop]
          rw [e3] at e2
          have h2' : ∀ e ∈ es.set i ts, e.length = m := fun e he => by
            rcases List.mem_or_eq_of_mem_set he with he | he
            · exact h2 e he
            · rw [he]; exact hcond.1
          obtain ⟨c2, f1, f2, f3, f4⟩ := fill_rows hG h r m ps tl _ cells' res htl h2' e2 h4
          exact ⟨c2, by rw [List.map_cons, e1]; exact f1, f2, f3, by rw [f4, List.length_set]⟩
        · simp at h4
      · simp at h4
    · simp at h1
end

/-- Zero cells, row by row. -/
theorem zeroRows {zv : List Value} {len : Nat} (hz : 0 < zv.length) : ((List.range (len * zv.length)).map fun i => zv[i % zv.length]!) = (List.replicate len zv).flatten := by
  induction len with
  | zero => simp
  | succ len ih =>
    rw [List.replicate_succ', List.flatten_append, ← ih, Nat.add_mul, Nat.one_mul, List.range_add, List.map_append]
    congr 1
    simp only [List.map_map, List.flatten_cons, List.flatten_nil, List.append_nil]
    apply List.ext_getElem
    · simp
    · intro i h1 h2
      simp at h1
      simp [Nat.mul_add_mod, Nat.mod_eq_of_lt h1, h2]

theorem zeroArr (z : Array Value) (k : Nat) : ((Array.range k).map fun i => z[i % z.size]!).toList = (List.range k).map fun i => z.toList[i % z.toList.length]! := by
  simp only [Array.toList_map, Array.toList_range, Array.length_toList]
  apply List.map_congr_left
  intro i _
  simp only [getElem!_def, Array.getElem?_toList]

theorem new_row (h : RS E F sto w A φ) {id sz : Nat} (hn : isFresh sto id = true) {es : List (List T)} {ys : Array Value} (e : TypeId) {len cap : Nat} (hlen : len = es.length) (hle : len ≤ cap) (hsz : cap * sz ≤ ys.size)
    (hl : ∀ x ∈ es, x.length = sz) (hc : CAs A φ w (es.flatten.map .t) (ys.toList.take (len * sz))) :
    Did E F sto A φ w (.own id sz 0 len true) (.slice (some ⟨w.heap.size, 0, none⟩) len cap) (applyWr sto [(id, .row sz true es)]) (w.alloc (.cells ys e)) A (upd φ id w.heap.size) := by
  have hn' : sto id = none := isFresh_none hn
  have hne : ∀ j, (sto j).isSome = true → j ≠ id := fun j hj e => by rw [e, hn'] at hj; simp at hj
  have hnew : (w.alloc (.cells ys e)).heap[w.heap.size]? = some (.cells ys e (0, 0)) := by show (w.heap.push _)[w.heap.size]? = _; simp
  refine ⟨h.alloc hn' (isFresh_ge hn) ys e _ (fun j hj => by simp [Ob.ids] at hj) ?_, goes_new h _, fun j hj => upd_ne _ _ (hne j hj), fun j hj => applyWr_mono hj, ?_, ?_⟩
  · simp only [CO]
    refine ⟨fun hf => by simp at hf, fun _ => ⟨⟨ys, e, hnew⟩, CRows.of hl (CCells.of (goes_new h _) hc fun j v hv => ?_)⟩⟩
    rw [cell_of_heap_get hnew, Nat.zero_add]
    rw [List.getElem?_take] at hv
    split at hv
    · simpa using hv
    · simp at hv
  · simp only [CA, upd_same]
    exact ⟨_, cap, rfl, hle, by simp, Or.inr ⟨by simp, ys, e, hnew, by simpa using hsz⟩⟩
  · intro i hi; simp [AV.ids] at hi; subst hi; simp [applyWr]

theorem sim_bsl {G : Nat → Option (List T)} {st : St} {n : Nat} {a : Act} (hG : GOK E G) (h : RS E F st.sto w A φ) (r : RE st n a w A φ) {t : TypeId} {len : Nat} {ps : Array (Nat × Operand)} {so : SOp} (hs : slimOp P G (.buildSlice t len ps) = some so) {id : Nat} {x : AV} {wr : List (Nat × Ob)}
    (hc : core id so (·.ev st.env) st.sto = some (x, wr)) :
    ∃ v w' φ', (Instr.buildSlice t len (ps.map fun (i, x) => (i, a.eval x))).run P w = .ok v w' ∧ Did E F st.sto A φ w x v (applyWr st.sto wr) w' A φ' := by
  simp only [slimOp] at hs
  split at hs
  · rename_i e hu
    split at hs
    · rename_i m z ps' hm hz hps
      split at hs
      · rename_i hcond
        obtain ⟨hzl, hm0, hbig⟩ := hcond
        injection hs with hs; subst hs
        simp only [core] at hc
        split at hc
        · rename_i hn
          split at hc
          · rename_i es hes
            simp only [Option.some.injEq, Prod.mk.injEq] at hc
            obtain ⟨rfl, rfl⟩ := hc
            obtain ⟨zv, z1, z2, z3, z4⟩ := zero_ok hz
            have hzlen : zv.cells.toList.length = m := by rw [← hzl, z4]; simp
            have hsize : zv.cells.size = m := by simpa using hzlen
            have hz0 : ∀ e ∈ List.replicate len z, e.length = m := fun e he => by rw [(List.mem_replicate.1 he).2]; exact hzl
            have hrows : ((Array.range (len * m)).map fun i => zv.cells[i % zv.cells.size]!).toList = (List.replicate len zv.cells.toList).flatten := by
              rw [← zeroRows (by omega), zeroArr, hzlen]
            have hcas : CAs A φ w ((List.replicate len z).flatten.map .t) ((Array.range (len * m)).map fun i => zv.cells[i % zv.cells.size]!).toList := by
              rw [hrows]
              clear hrows hes hz0 hbig
              induction len with
              | zero => simp [CAs]
              | succ len ih =>
                simp only [List.replicate_succ, List.flatten_cons, List.map_append]
                exact (z2 A φ w).append ih
            obtain ⟨cells', f1, f2, f3, f4⟩ := fill_rows hG h r m ps.toList ps' _ _ es hps hz0 hcas hes
            have hfl := flatten_len f3
            have hcs : cells'.size = len * m := by
              have := f2.length
              simp only [List.length_map, Array.length_toList] at this
              rw [this, hfl, f4]; simp
            refine ⟨_, _, _, ?_, new_row h hn e (ys := cells') (len := len) (cap := len) (by rw [f4]; simp) (Nat.le_refl _) (by omega) f3 (by rw [List.take_of_length_le (by simp [hcs])]; exact f2)⟩
            have hmap : (ps.toList.map fun x => match x with | (i, x) => (i, a.eval x)) = ps.toList.map fun p => (p.1, a.eval p.2) := rfl
            simp only [Instr.buildSlice, Sem.run_bind, run_underlying hu, Result.andThen_ok, run_sizeOf hm]
            rw [if_neg (by omega)]
            by_cases h0 : len * m = 0
            · have hl0 : len = 0 := by rcases Nat.mul_eq_zero.1 h0 with h | h <;> omega
              subst hl0
              have e0 : ((Array.range (0 * m)).map fun i => (#[] : Array Value)[i % (#[] : Array Value).size]!) = ((Array.range (0 * m)).map fun i => zv.cells[i % zv.cells.size]!) := by simp
              rw [if_pos h0]
              simp only [Sem.run_bind, Sem.run_pure, Result.andThen_ok, Array.toList_map, hmap, e0, f1]
              simp [newRow]
            · rw [if_neg h0]
              simp only [Sem.run_bind, z1, Result.andThen_ok, Sem.run_pure, Array.toList_map, hmap, f1]
              simp [newRow]
          · simp at hc
        · simp at hc
      · simp at hs
    · simp at hs
  · simp at hs

theorem sim_mksl {G : Nat → Option (List T)} {st : St} {n : Nat} {a : Act} (hG : GOK E G) (h : RS E F st.sto w A φ) (r : RE st n a w A φ) {t : TypeId} {l c : Operand} {so : SOp} (hs : slimOp P G (.makeSlice t l c) = some so) {id : Nat} {x : AV} {wr : List (Nat × Ob)}
    (hc : core id so (·.ev st.env) st.sto = some (x, wr)) :
    ∃ v w' φ', (Instr.makeSlice t (a.eval l) (a.eval c)).run P w = .ok v w' ∧ Did E F st.sto A φ w x v (applyWr st.sto wr) w' A φ' := by
  simp only [slimOp] at hs
  split at hs
  · rename_i e hu
    split at hs
    · rename_i i z ls cs hi hz hl0 hc0
      split at hs
      · rename_i hcond
        obtain ⟨hzl, hm0⟩ := hcond
        injection hs with hs; subst hs
        simp only [core] at hc
        split at hc
        · rename_i hn
          split at hc
          · rename_i k1 p k2 q hlv hcv
            split at hc
            · rename_i hb
              obtain ⟨b1, b2, b3, b4⟩ := hb
              simp only [Option.some.injEq, Prod.mk.injEq] at hc
              obtain ⟨rfl, rfl⟩ := hc
              have e1 := (ev_ok hG h r hl0).1
              have e2 := (ev_ok hG h r hc0).1
              rw [hlv] at e1; rw [hcv] at e2
              rw [(ca_v e1).1, (ca_v e2).1]
              obtain ⟨zv, z1, z2, z3, z4⟩ := zero_ok hz
              have hzlen : zv.cells.toList.length = i.size := by rw [← hzl, z4]; simp
              have hsize : zv.cells.size = i.size := by simpa using hzlen
              have hsz : sizeT P e = some i.size := by simp [sizeT, hi]
              have wp : IntKind.i64.wrap p = p := IntWalk.i64_in _ (by omega)
              have wq : IntKind.i64.wrap q = q := IntWalk.i64_in _ (by omega)
              have hrows : ((Array.range (q.toNat * i.size)).map fun j => zv.cells[j % zv.cells.size]!).toList = (List.replicate q.toNat zv.cells.toList).flatten := by
                rw [← zeroRows (by omega), zeroArr, hzlen]
              have hrep : ∀ k, CAs A φ w ((List.replicate k z).flatten.map .t) (List.replicate k zv.cells.toList).flatten := by
                intro k
                induction k with
                | zero => simp [CAs]
                | succ k ih =>
                  simp only [List.replicate_succ, List.flatten_cons, List.map_append]
                  exact (z2 A φ w).append ih
              have hlens : ∀ k, ∀ e ∈ List.replicate k zv.cells.toList, e.length = i.size := fun k e he => by rw [(List.mem_replicate.1 he).2]; exact hzlen
              refine ⟨_, _, _, ?_, new_row h hn e (len := p.toNat) (cap := q.toNat) (es := List.replicate p.toNat z) (ys := (Array.range (q.toNat * i.size)).map fun j => zv.cells[j % zv.cells.size]!) (by simp) (by omega) (by simp) (fun x hx => by rw [(List.mem_replicate.1 hx).2]; exact hzl) ?_⟩
              · simp only [Instr.makeSlice, Sem.run_bind, run_underlying hu, Result.andThen_ok, asInt, asIntOf, Sem.run_pure, typeInfo, run_program, hi, wp, wq]
                have hb4 : ¬ ((i.bytes : Int) * q > 2 ^ 48) := by omega
                have hq0 : ¬ (q < 0) := by omega
                have hp0 : ¬ (p < 0) := by omega
                have hpq : ¬ (p > q) := by omega
                have c0 : (decide (q < 0) || decide ((i.bytes : Int) * q > 2 ^ 48) || decide (p < 0) || decide (p > q)) = false := by
                  simp only [hb4, hq0, hp0, hpq, decide_false, Bool.or_false]
                simp only [c0, Bool.false_eq_true, if_false, Sem.run_bind, Sem.run_pure, Result.andThen_ok, run_askRoom, run_sizeOf hsz]
                by_cases h0 : q.toNat * i.size = 0
                · have hl0 : q.toNat = 0 := by rcases Nat.mul_eq_zero.1 h0 with h | h <;> omega
                  have e0 : ((Array.range 0).map fun i => (#[] : Array Value)[i % (#[] : Array Value).size]!) = ((Array.range 0).map fun i => zv.cells[i % zv.cells.size]!) := by simp
                  simp only [h0, if_true, Sem.run_pure, Result.andThen_ok, newRow, Sem.run_bind, run_newObj, e0]
                  rfl
                · rw [if_neg h0]
                  simp only [Sem.run_bind, z1, Result.andThen_ok, Sem.run_pure, newRow, run_newObj]
                  rfl
              · rw [hrows]
                have := hrep q.toNat
                have e3 : (List.replicate q.toNat zv.cells.toList).flatten.take (p.toNat * i.size) = (List.replicate p.toNat zv.cells.toList).flatten := by
                  have : List.replicate q.toNat zv.cells.toList = List.replicate p.toNat zv.cells.toList ++ List.replicate (q.toNat - p.toNat) zv.cells.toList := by
                    rw [List.replicate_append_replicate]; congr 1; omega
                  rw [this, List.flatten_append, List.take_left']
                  rw [flatten_len (hlens p.toNat), List.length_replicate]
                rw [e3]; exact hrep p.toNat
            · simp at hc
          · simp at hc
        · simp at hc
      · simp at hs
    · simp at hs
  · simp at hs

end
end Go.Sx
