/- Rows: made, appended to, cut. No statement of a seat is proved here. -/
import Derived.Test.YtgmpceijcdimkaaGreatDoorSxB
set_option linter.unusedSimpArgs false
set_option linter.unusedVariables false
namespace Go.Sx
section
variable {P : Program} {E : Env} {F : Frm} {sto : Nat → Option Ob} {w : World} {A : Nat → Prop} {φ : Nat → Nat} {ds : List Deferred}

theorem E5.of {sz b : Nat} : ∀ {es : List (List T)} {o : Nat}, (∀ e ∈ es, e.length = sz) → D0 A w b o es.flatten → E5 A w sz b o es
 | [], _, _, _ => by simp only [E5]
 | e :: es, o, hl, h => by
  simp only [List.flatten_cons, D0.append] at h
  rw [hl e (by simp)] at h
  simp only [E5]
  exact ⟨⟨hl e (by simp), h.1⟩, E5.of (fun x hx => hl x (by simp [hx])) h.2⟩

theorem E5.lens {sz b o : Nat} {es : List (List T)} (h : E5 A w sz b o es) : ∀ e ∈ es, e.length = sz := by
 intro e he
 obtain ⟨i, hi, rfl⟩ := List.getElem_of_mem he
 exact (h.get (List.getElem?_eq_getElem hi)).1

theorem A0p {α : Type} {n : Nat} {es : List (List α)} (h : ∀ e ∈ es, e.length = n) : es.flatten.length = es.length * n := by
 induction es with
 | nil => simp
 | cons e es ih =>
  simp only [List.flatten_cons, List.length_append, List.length_cons, Nat.add_mul, Nat.one_mul]
  rw [ih fun x hx => h x (by simp [hx]), h e (by simp)]; omega

theorem D5g {α : Type} {a m b vs : List α} (hm : m.length = vs.length) : splice (a ++ (m ++ b)) a.length vs = a ++ (vs ++ b) := by
 unfold splice
 rw [List.take_left', List.append_assoc]
 ·congr 2
  rw [← List.drop_drop, List.drop_left', List.drop_left' hm]
  rfl
 ·rfl

theorem C25 {α : Type} {n : Nat} {es : List (List α)} (h : ∀ e ∈ es, e.length = n) {i : Nat} (hi : i < es.length) {ts : List α} (hts : ts.length = n) :
  (es.set i ts).flatten = splice es.flatten (i * n) ts := by
 have h1 : (es.take i).flatten.length = i * n := by
  rw [A0p (n := n) fun e he => h e (List.mem_of_mem_take he), List.length_take]
  congr 1; omega
 have hsplit : es = es.take i ++ es[i] :: es.drop (i + 1) := by
  rw [← List.drop_eq_getElem_cons hi, List.take_append_drop]
 rw [List.set_eq_take_append_cons_drop, if_pos hi]
 conv => rhs; rw [hsplit]
 simp only [List.flatten_append, List.flatten_cons]
 rw [← h1]
 exact (D5g (by rw [hts]; exact h _ (List.getElem_mem hi))).symm

section
variable {G : Nat → Option (List T)} {st : St} {n : Nat} {a : Act}

theorem C85 (hG : GOK E G) (h : RS E F st.sto w A φ) (r : RE ds st n a w A φ) (m : Nat) :
  ∀ (ps : List (Nat × Operand)) (ps' : List (Nat × SV)) (es : List (List T)) (cells : Array Value) (res : List (List T)), B56 G ps = some ps' → (∀ e ∈ es, e.length = m) → H7 A φ w (es.flatten.map .t) cells.toList → B9w (·.ev st.env) m es ps' = some res →
   ∃ cells', Instr.fill (fun i => some (i * m, m)) cells (ps.map fun p => (p.1, a.eval p.2)) = some cells' ∧ H7 A φ w (res.flatten.map .t) cells'.toList ∧ (∀ e ∈ res, e.length = m) ∧ res.length = es.length
 | [], ps', es, cells, res, h1, h2, h3, h4 => by
  simp only [B56, Option.some.injEq] at h1; subst h1
  simp only [B9w, Option.some.injEq] at h4; subst h4
  exact ⟨cells, rfl, h3, h2, rfl⟩
 | (i, x) :: ps, ps', es, cells, res, h1, h2, h3, h4 => by
  simp only [B56] at h1
  split at h1
  ·rename_i sv tl hx htl
   injection h1 with h1; subst h1
   simp only [B9w] at h4
   split at h4
   ·rename_i ts hts
    split at h4
    ·rename_i hcond
     have ev := M9 hG h r hx
     have hcells := C5j hts
     have hfl := A0p h2
     have him : i * m + m ≤ es.length * m := by have := Nat.mul_le_mul_right m hcond.2; rw [Nat.succ_mul] at this; exact this
     obtain ⟨cells', e1, e2⟩ := B65 (place := fun i => some (i * m, m)) (i := i) rfl h3 ev.1 ⟨by rw [hcells, List.length_map]; exact hcond.1, by rw [List.length_map, hfl]; exact him, by rw [hcells]; simp [AV.one]⟩ (ps.map fun p => (p.1, a.eval p.2))
     have e3 : splice (es.flatten.map AV.t) (i * m) (sv.ev st.env).cells = ((es.set i ts).flatten.map .t) := by
      rw [C25 h2 hcond.2 hcond.1, hcells]
      simp [splice, List.map_take, List.map_drop]
     rw [e3] at e2
     have h2' : ∀ e ∈ es.set i ts, e.length = m := fun e he => by
      rcases List.mem_or_eq_of_mem_set he with he | he
      ·exact h2 e he
      ·rw [he]; exact hcond.1
     obtain ⟨c2, f1, f2, f3, f4⟩ := C85 hG h r m ps tl _ cells' res htl h2' e2 h4
     exact ⟨c2, by rw [List.map_cons, e1]; exact f1, f2, f3, by rw [f4, List.length_set]⟩
    ·simp at h4
   ·simp at h4
  ·simp at h1

theorem D4j {x : AV} : ∀ {l : List AV}, x ∈ l → ∀ j ∈ x.ids, j ∈ B5 l
 | y :: l, hx, j, hj => by
  simp only [B5, List.mem_append]
  rcases List.mem_cons.1 hx with h | h
  ·rw [← h]; exact Or.inl hj
  ·exact Or.inr (D4j h j hj)

theorem D4y {j : Nat} : ∀ {l : List AV}, j ∈ B5 l → ∃ x ∈ l, j ∈ x.ids
 | [], h => by simp [B5] at h
 | y :: l, h => by
  simp only [B5, List.mem_append] at h
  rcases h with h | h
  ·exact ⟨y, by simp, h⟩
  ·obtain ⟨x, hx, hj⟩ := D4y h
   exact ⟨x, by simp [hx], hj⟩

theorem D5z {x y : AV} (h : y ∈ x.cells) : ∀ j ∈ y.ids, j ∈ x.ids := by
 by_cases hg : ∃ cs, x = .ag cs
 ·obtain ⟨cs, rfl⟩ := hg
  intro j hj
  simp only [AV.ids]
  exact D4j h j hj
 ·have hc : x.cells = [x] := by cases x <;> simp_all [AV.cells]
  rw [hc] at h
  obtain rfl : y = x := by simpa using h
  exact fun j hj => hj

theorem C5c (hG : GOK E G) (h : RS E F st.sto w A φ) (r : RE ds st n a w A φ) (m : Nat) :
  ∀ (ps : List (Nat × Operand)) (ps' : List (Nat × SV)) (es : List (List AV)) (cells : Array Value) (res : List (List AV)), B56 G ps = some ps' → (∀ e ∈ es, e.length = m) → (∀ e ∈ es, ∀ x ∈ e, x.one = true ∧ ∀ j ∈ x.ids, (st.sto j).isSome = true) → H7 A φ w es.flatten cells.toList → C0c (·.ev st.env) m es ps' = some res →
   ∃ cells', Instr.fill (fun i => some (i * m, m)) cells (ps.map fun p => (p.1, a.eval p.2)) = some cells' ∧ H7 A φ w res.flatten cells'.toList ∧ (∀ e ∈ res, e.length = m) ∧ res.length = es.length ∧ (∀ e ∈ res, ∀ x ∈ e, x.one = true ∧ ∀ j ∈ x.ids, (st.sto j).isSome = true)
 | [], ps', es, cells, res, h1, h2, h5, h3, h4 => by
  simp only [B56, Option.some.injEq] at h1; subst h1
  simp only [C0c, Option.some.injEq] at h4; subst h4
  exact ⟨cells, rfl, h3, h2, rfl, h5⟩
 | (i, x) :: ps, ps', es, cells, res, h1, h2, h5, h3, h4 => by
  simp only [B56] at h1
  split at h1
  ·rename_i sv tl hx htl
   injection h1 with h1; subst h1
   simp only [C0c] at h4
   split at h4
   ·rename_i hcond
    have ev := M9 hG h r hx
    have hfl := A0p h2
    have him : i * m + m ≤ es.length * m := by have := Nat.mul_le_mul_right m hcond.2.1; rw [Nat.succ_mul] at this; exact this
    obtain ⟨cells', e1, e2⟩ := B65 (place := fun i => some (i * m, m)) (i := i) rfl h3 ev.1 ⟨hcond.1, by rw [hfl]; exact him, hcond.2.2⟩ (ps.map fun p => (p.1, a.eval p.2))
    rw [← C25 h2 hcond.2.1 hcond.1] at e2
    have h2' : ∀ e ∈ es.set i (sv.ev st.env).cells, e.length = m := fun e he => by
     rcases List.mem_or_eq_of_mem_set he with he | he
     ·exact h2 e he
     ·rw [he]; exact hcond.1
    have h5' : ∀ e ∈ es.set i (sv.ev st.env).cells, ∀ x ∈ e, x.one = true ∧ ∀ j ∈ x.ids, (st.sto j).isSome = true := fun e he => by
     rcases List.mem_or_eq_of_mem_set he with he | he
     ·exact h5 e he
     ·rw [he]; exact fun y hy => ⟨List.all_eq_true.1 hcond.2.2 y hy, fun j hj => ev.2 j (D5z hy j hj)⟩
    obtain ⟨c2, f1, f2, f3, f4, f5⟩ := C5c hG h r m ps tl _ cells' res htl h2' h5' e2 h4
    exact ⟨c2, by rw [List.map_cons, e1]; exact f1, f2, f3, by rw [f4, List.length_set], f5⟩
   ·simp at h4
  ·simp at h1
end

/-- Zero cells, row by row. -/
theorem B91 {zv : List Value} {len : Nat} (hz : 0 < zv.length) : ((List.range (len * zv.length)).map fun i => zv[i % zv.length]!) = (List.replicate len zv).flatten := by
 induction len with
 | zero => simp
 | succ len ih =>
  rw [List.replicate_succ', List.flatten_append, ← ih, Nat.add_mul, Nat.one_mul, List.range_add, List.map_append]
  congr 1
  simp only [List.map_map, List.flatten_cons, List.flatten_nil, List.append_nil]
  apply List.ext_getElem
  ·simp
  ·intro i h1 h2
   simp at h1
   simp [Nat.mul_add_mod, Nat.mod_eq_of_lt h1, h2]

theorem C3y (z : Array Value) (k : Nat) : ((Array.range k).map fun i => z[i % z.size]!).toList = (List.range k).map fun i => z.toList[i % z.toList.length]! := by
 simp only [Array.toList_map, Array.toList_range, Array.length_toList]
 apply List.map_congr_left
 intro i _
 simp only [getElem!_def, Array.getElem?_toList]

theorem C92 (h : RS E F sto w A φ) {id sz : Nat} (hn : Q7 sto id = true) {es : List (List T)} {ys : Array Value} (e : TypeId) {len cap : Nat} (hlen : len = es.length) (hle : len ≤ cap) (hsz : cap * sz ≤ ys.size)
  (hl : ∀ x ∈ es, x.length = sz) (hc : H7 A φ w (es.flatten.map .t) (ys.toList.take (len * sz))) :
  Did E F sto A φ w (.own id sz 0 len true) (.slice (some ⟨w.heap.size, 0, none⟩) len cap) (G6 sto [(id, .row sz true es)]) (w.alloc (.cells ys e)) A (upd φ id w.heap.size) := by
 have hn' : sto id = none := O7 hn
 have hne : ∀ j, (sto j).isSome = true → j ≠ id := fun j hj e => by rw [e, hn'] at hj; simp at hj
 have hnew : (w.alloc (.cells ys e)).heap[w.heap.size]? = some (.cells ys e (0, 0)) := by show (w.heap.push _)[w.heap.size]? = _; simp
 refine ⟨h.alloc hn' (A32 hn) ys e _ (fun j hj => by simp [Ob.ids] at hj) ?_, A9g h _, fun j hj => D5 _ _ (hne j hj), fun j hj => J4 hj, ?_, ?_⟩
 ·simp only [CO]
  refine ⟨fun hf => by simp at hf, fun _ => ⟨⟨ys, e, hnew⟩, E5.of hl (D0.of (A9g h _) hc fun j v hv => ?_)⟩⟩
  rw [D9 hnew, Nat.zero_add]
  rw [List.getElem?_take] at hv
  split at hv
  ·simpa using hv
  ·simp at hv
 ·simp only [CA, A1e]
  exact ⟨_, cap, rfl, hle, by simp, Or.inr ⟨by simp, ys, e, hnew, by simpa using hsz⟩⟩
 ·intro i hi; simp [AV.ids] at hi; subst hi; simp [G6]

theorem D89 (h : RS E F sto w A φ) {id sz : Nat} (hn : Q7 sto id = true) {es : List (List AV)} {ys : Array Value} (e : TypeId) {len : Nat} (hlen : len = es.length) (hsz : len * sz ≤ ys.size)
  (hl : ∀ x ∈ es, x.length = sz) (hi : ∀ e ∈ es, ∀ x ∈ e, x.one = true ∧ ∀ j ∈ x.ids, (sto j).isSome = true) (hc : H7 A φ w es.flatten ys.toList) :
  Did E F sto A φ w (.own id sz 0 len true) (.slice (some ⟨w.heap.size, 0, none⟩) len len) (G6 sto [(id, .rowA sz es)]) (w.alloc (.cells ys e)) A (upd φ id w.heap.size) := by
 have hn' : sto id = none := O7 hn
 have hne : ∀ j, (sto j).isSome = true → j ≠ id := fun j hj e => by rw [e, hn'] at hj; simp at hj
 have hnew : (w.alloc (.cells ys e)).heap[w.heap.size]? = some (.cells ys e (0, 0)) := by show (w.heap.push _)[w.heap.size]? = _; simp
 have hids : ∀ j ∈ B5 es.flatten, (sto j).isSome = true := fun j hj => by
  obtain ⟨x, hx, hj⟩ := D4y hj
  obtain ⟨r, hr, hx⟩ := List.mem_flatten.1 hx
  exact (hi r hr x hx).2 j hj
 refine ⟨h.alloc hn' (A32 hn) ys e _ (fun j hj => hids j (by simpa only [Ob.ids] using hj)) ?_, A9g h _, fun j hj => D5 _ _ (hne j hj), fun j hj => J4 hj, ?_, ?_⟩
 ·simp only [CO]
  refine ⟨hl, ys, e, hnew, ys.toList, [], by simp, H7.goes (A9g h _) _ _ (fun j hj => D5 _ _ (hne j (hids j hj))) hc, fun y hy => ?_⟩
  obtain ⟨z, hz, hcz⟩ := H7.mem hc y hy
  obtain ⟨r, hr, hz⟩ := List.mem_flatten.1 hz
  exact (AV.one_cell (hi r hr z hz).1 hcz).1
 ·simp only [CA, A1e]
  exact ⟨_, len, rfl, Nat.le_refl _, by simp, Or.inr ⟨by simp, ys, e, hnew, by simpa using hsz⟩⟩
 ·intro i hi; simp [AV.ids] at hi; subst hi; simp [G6]

theorem E0c {G : Nat → Option (List T)} {st : St} {n : Nat} {a : Act} (hG : GOK E G) (h : RS E F st.sto w A φ) (r : RE ds st n a w A φ) {t : TypeId} {len : Nat} {ps : Array (Nat × Operand)} {so : SOp} (hs : J5 P G (.buildSlice t len ps) = some so) {id : Nat} {x : AV} {wr : List (Nat × Ob)}
  (hc : J9 id so (·.ev st.env) st.sto = some (x, wr)) :
  ∃ v w' φ', (Instr.buildSlice t len (ps.map fun (i, x) => (i, a.eval x))).run P w = .ok v w' ∧ Did E F st.sto A φ w x v (G6 st.sto wr) w' A φ' := by
 simp only [J5] at hs
 split at hs
 ·rename_i e hu
  split at hs
  ·rename_i m z ps' hm hz hps
   split at hs
   ·rename_i hcond
    obtain ⟨hzl, hm0, hbig⟩ := hcond
    injection hs with hs; subst hs
    simp only [J9] at hc
    split at hc
    ·rename_i hn
     split at hc
     ·rename_i es hes
      simp only [Option.some.injEq, Prod.mk.injEq] at hc
      obtain ⟨rfl, rfl⟩ := hc
      obtain ⟨zv, z1, z2, z3, z4⟩ := A6f hz
      have hzlen : zv.cells.toList.length = m := by rw [← hzl, z4]; simp
      have hsize : zv.cells.size = m := by simpa using hzlen
      have hz0 : ∀ e ∈ List.replicate len z, e.length = m := fun e he => by rw [(List.mem_replicate.1 he).2]; exact hzl
      have hrows : ((Array.range (len * m)).map fun i => zv.cells[i % zv.cells.size]!).toList = (List.replicate len zv.cells.toList).flatten := by
       rw [← B91 (by omega), C3y, hzlen]
      have hcas : H7 A φ w ((List.replicate len z).flatten.map .t) ((Array.range (len * m)).map fun i => zv.cells[i % zv.cells.size]!).toList := by
       rw [hrows]
       clear hrows hes hz0 hbig
       induction len with
       | zero => simp [H7]
       | succ len ih =>
        simp only [List.replicate_succ, List.flatten_cons, List.map_append]
        exact (z2 A φ w).append ih
      obtain ⟨cells', f1, f2, f3, f4⟩ := C85 hG h r m ps.toList ps' _ _ es hps hz0 hcas hes
      have hfl := A0p f3
      have hcs : cells'.size = len * m := by
       have := f2.length
       simp only [List.length_map, Array.length_toList] at this
       rw [this, hfl, f4]; simp
      refine ⟨_, _, _, ?_, C92 h hn e (ys := cells') (len := len) (cap := len) (by rw [f4]; simp) (Nat.le_refl _) (by omega) f3 (by rw [List.take_of_length_le (by simp [hcs])]; exact f2)⟩
      have hmap : (ps.toList.map fun x => match x with | (i, x) => (i, a.eval x)) = ps.toList.map fun p => (p.1, a.eval p.2) := rfl
      simp only [Instr.buildSlice, Sem.run_bind, run_underlying hu, Result.andThen_ok, O1 hm]
      rw [if_neg (by omega)]
      by_cases h0 : len * m = 0
      ·have hl0 : len = 0 := by rcases Nat.mul_eq_zero.1 h0 with h | h <;> omega
       subst hl0
       have e0 : ((Array.range (0 * m)).map fun i => (#[] : Array Value)[i % (#[] : Array Value).size]!) = ((Array.range (0 * m)).map fun i => zv.cells[i % zv.cells.size]!) := by simp
       rw [if_pos h0]
       simp only [Sem.run_bind, Sem.run_pure, Result.andThen_ok, Array.toList_map, hmap, e0, f1]
       simp [newRow]
      ·rw [if_neg h0]
       simp only [Sem.run_bind, z1, Result.andThen_ok, Sem.run_pure, Array.toList_map, hmap, f1]
       simp [newRow]
     ·rename_i hnone
      clear hnone
      split at hc
      ·rename_i es hes
       simp only [Option.some.injEq, Prod.mk.injEq] at hc
       obtain ⟨rfl, rfl⟩ := hc
       obtain ⟨zv, z1, z2, z3, z4⟩ := A6f hz
       have hzlen : zv.cells.toList.length = m := by rw [← hzl, z4]; simp
       have hsize : zv.cells.size = m := by simpa using hzlen
       have hz0 : ∀ e ∈ List.replicate len (z.map AV.t), e.length = m := fun e he => by rw [(List.mem_replicate.1 he).2, List.length_map]; exact hzl
       have hrows : ((Array.range (len * m)).map fun i => zv.cells[i % zv.cells.size]!).toList = (List.replicate len zv.cells.toList).flatten := by
        rw [← B91 (by omega), C3y, hzlen]
       have hcas : H7 A φ w (List.replicate len (z.map AV.t)).flatten ((Array.range (len * m)).map fun i => zv.cells[i % zv.cells.size]!).toList := by
        rw [hrows]
        clear hrows hes hz0 hbig
        induction len with
        | zero => simp [H7]
        | succ len ih =>
         simp only [List.replicate_succ, List.flatten_cons]
         exact (z2 A φ w).append ih
       have hz5 : ∀ e ∈ List.replicate len (z.map AV.t), ∀ x ∈ e, x.one = true ∧ ∀ j ∈ x.ids, (st.sto j).isSome = true := fun e he x hx => by
        rw [(List.mem_replicate.1 he).2] at hx
        obtain ⟨y, _, rfl⟩ := List.mem_map.1 hx
        exact ⟨rfl, fun j hj => by simp [AV.ids] at hj⟩
       obtain ⟨cells', f1, f2, f3, f4, f5⟩ := C5c hG h r m ps.toList ps' _ _ es hps hz0 hz5 hcas hes
       have hfl := A0p f3
       have hcs : cells'.size = len * m := by
        have := f2.length
        simp only [Array.length_toList] at this
        rw [this, hfl, f4]; simp
       refine ⟨_, _, _, ?_, D89 h hn e (ys := cells') (len := len) (by rw [f4]; simp) (by omega) f3 f5 f2⟩
       have hmap : (ps.toList.map fun x => match x with | (i, x) => (i, a.eval x)) = ps.toList.map fun p => (p.1, a.eval p.2) := rfl
       simp only [Instr.buildSlice, Sem.run_bind, run_underlying hu, Result.andThen_ok, O1 hm]
       rw [if_neg (by omega)]
       by_cases h0 : len * m = 0
       ·have hl0 : len = 0 := by rcases Nat.mul_eq_zero.1 h0 with h | h <;> omega
        subst hl0
        have e0 : ((Array.range (0 * m)).map fun i => (#[] : Array Value)[i % (#[] : Array Value).size]!) = ((Array.range (0 * m)).map fun i => zv.cells[i % zv.cells.size]!) := by simp
        rw [if_pos h0]
        simp only [Sem.run_bind, Sem.run_pure, Result.andThen_ok, Array.toList_map, hmap, e0, f1]
        simp [newRow]
       ·rw [if_neg h0]
        simp only [Sem.run_bind, z1, Result.andThen_ok, Sem.run_pure, Array.toList_map, hmap, f1]
        simp [newRow]
      ·simp at hc
    ·simp at hc
   ·simp at hs
  ·simp at hs
 ·simp at hs

theorem D7s {G : Nat → Option (List T)} {st : St} {n : Nat} {a : Act} (hG : GOK E G) (h : RS E F st.sto w A φ) (r : RE ds st n a w A φ) {t : TypeId} {l c : Operand} {so : SOp} (hs : J5 P G (.makeSlice t l c) = some so) {id : Nat} {x : AV} {wr : List (Nat × Ob)}
  (hc : J9 id so (·.ev st.env) st.sto = some (x, wr)) :
  ∃ v w' φ', (Instr.makeSlice t (a.eval l) (a.eval c)).run P w = .ok v w' ∧ Did E F st.sto A φ w x v (G6 st.sto wr) w' A φ' := by
 simp only [J5] at hs
 split at hs
 ·rename_i e hu
  split at hs
  ·rename_i i z ls cs hi hz hl0 hc0
   split at hs
   ·rename_i hcond
    obtain ⟨hzl, hm0⟩ := hcond
    injection hs with hs; subst hs
    simp only [J9] at hc
    split at hc
    ·rename_i hn
     split at hc
     ·rename_i k1 p k2 q hlv hcv
      split at hc
      ·rename_i hb
       obtain ⟨b1, b2, b3, b4⟩ := hb
       simp only [Option.some.injEq, Prod.mk.injEq] at hc
       obtain ⟨rfl, rfl⟩ := hc
       have e1 := (M9 hG h r hl0).1
       have e2 := (M9 hG h r hc0).1
       rw [hlv] at e1; rw [hcv] at e2
       rw [(U3 e1).1, (U3 e2).1]
       obtain ⟨zv, z1, z2, z3, z4⟩ := A6f hz
       have hzlen : zv.cells.toList.length = i.size := by rw [← hzl, z4]; simp
       have hsize : zv.cells.size = i.size := by simpa using hzlen
       have hsz : Q8 P e = some i.size := by simp [Q8, hi]
       have wp : IntKind.i64.wrap p = p := IntWalk.i64_in _ (by omega)
       have wq : IntKind.i64.wrap q = q := IntWalk.i64_in _ (by omega)
       have hrows : ((Array.range (q.toNat * i.size)).map fun j => zv.cells[j % zv.cells.size]!).toList = (List.replicate q.toNat zv.cells.toList).flatten := by
        rw [← B91 (by omega), C3y, hzlen]
       have hrep : ∀ k, H7 A φ w ((List.replicate k z).flatten.map .t) (List.replicate k zv.cells.toList).flatten := by
        intro k
        induction k with
        | zero => simp [H7]
        | succ k ih =>
         simp only [List.replicate_succ, List.flatten_cons, List.map_append]
         exact (z2 A φ w).append ih
       have hlens : ∀ k, ∀ e ∈ List.replicate k zv.cells.toList, e.length = i.size := fun k e he => by rw [(List.mem_replicate.1 he).2]; exact hzlen
       refine ⟨_, _, _, ?_, C92 h hn e (len := p.toNat) (cap := q.toNat) (es := List.replicate p.toNat z) (ys := (Array.range (q.toNat * i.size)).map fun j => zv.cells[j % zv.cells.size]!) (by simp) (by omega) (by simp) (fun x hx => by rw [(List.mem_replicate.1 hx).2]; exact hzl) ?_⟩
       ·simp only [Instr.makeSlice, Sem.run_bind, run_underlying hu, Result.andThen_ok, asInt, asIntOf, Sem.run_pure, typeInfo, run_program, hi, wp, wq]
        have hb4 : ¬ ((i.bytes : Int) * q > 2 ^ 48) := by omega
        have hq0 : ¬ (q < 0) := by omega
        have hp0 : ¬ (p < 0) := by omega
        have hpq : ¬ (p > q) := by omega
        have c0 : (decide (q < 0) || decide ((i.bytes : Int) * q > 2 ^ 48) || decide (p < 0) || decide (p > q)) = false := by
         simp only [hb4, hq0, hp0, hpq, decide_false, Bool.or_false]
        simp only [c0, Bool.false_eq_true, if_false, Sem.run_bind, Sem.run_pure, Result.andThen_ok, run_askRoom, O1 hsz]
        by_cases h0 : q.toNat * i.size = 0
        ·have hl0 : q.toNat = 0 := by rcases Nat.mul_eq_zero.1 h0 with h | h <;> omega
         have e0 : ((Array.range 0).map fun i => (#[] : Array Value)[i % (#[] : Array Value).size]!) = ((Array.range 0).map fun i => zv.cells[i % zv.cells.size]!) := by simp
         simp only [h0, if_true, Sem.run_pure, Result.andThen_ok, newRow, Sem.run_bind, run_newObj, e0]
         rfl
        ·rw [if_neg h0]
         simp only [Sem.run_bind, z1, Result.andThen_ok, Sem.run_pure, newRow, run_newObj]
         rfl
       ·rw [hrows]
        have := hrep q.toNat
        have e3 : (List.replicate q.toNat zv.cells.toList).flatten.take (p.toNat * i.size) = (List.replicate p.toNat zv.cells.toList).flatten := by
         have : List.replicate q.toNat zv.cells.toList = List.replicate p.toNat zv.cells.toList ++ List.replicate (q.toNat - p.toNat) zv.cells.toList := by
          rw [List.replicate_append_replicate]; congr 1; omega
         rw [this, List.flatten_append, List.take_left']
         rw [A0p (hlens p.toNat), List.length_replicate]
        rw [e3]; exact hrep p.toNat
      ·simp at hc
     ·simp at hc
    ·simp at hc
   ·simp at hs
  ·simp at hs
 ·simp at hs

end
end Go.Sx

namespace Go.Sx
section
variable {P : Program} {E : Env} {F : Frm} {sto : Nat → Option Ob} {w : World} {A : Nat → Prop} {φ : Nat → Nat} {ds : List Deferred}

theorem C4z {isSlice : Bool} {len cap : Nat} {lo hi : Option Value} {l h : Int} (hlo : match lo with | none => l = 0 | some v => ∃ k, v = .int k l) (hhi : match hi with | none => h = len | some v => ∃ k, v = .int k h)
  (h0 : 0 ≤ l) (h1 : l ≤ h) (h2 : h ≤ len) (h3 : len ≤ cap) : (Instr.sliceBounds isSlice len cap lo hi none).run P w = .ok (l.toNat, h.toNat, cap) w := by
 have hh : (match hi, (none : Option Value) with
  | some v, some _ => Instr.sliceBound v cap (if isSlice then .slice3B else .slice3B)
  | some v, none => Instr.sliceBound v cap (if isSlice then .sliceAcap else .sliceAlen)
  | none, none => pure len
  | none, some _ => stuck "Slice: max without high" : Sem Nat).run P w = .ok h.toNat w := by
  cases hi with
  | none => simp only at hhi; simp [hhi]
  | some v =>
   obtain ⟨k, rfl⟩ := hhi
   have : 0 ≤ h ∧ h ≤ (cap : Int) := by omega
   simp [Instr.sliceBound, asIntOf, this]
 have hl : (match lo with
  | some v => Instr.sliceBound v h.toNat .sliceB
  | none => pure 0 : Sem Nat).run P w = .ok l.toNat w := by
  cases lo with
  | none => simp only at hlo; simp [hlo]
  | some v =>
   obtain ⟨k, rfl⟩ := hlo
   have : 0 ≤ l ∧ l ≤ (h.toNat : Int) := by omega
   simp only [Instr.sliceBound, asIntOf, Sem.run_bind, Sem.run_pure, Result.andThen_ok, this, and_self, if_true]
 unfold Instr.sliceBounds
 cases hi with
 | none =>
  simp only at hhi
  simp only [Sem.run_bind, Sem.run_pure, Result.andThen_ok] at hh ⊢
  injection hh with hh; rw [hh]
  cases lo with
  | none => simp only at hlo; simp [hlo]
  | some v => simp only [Sem.run_bind, Option.isSome_none, Bool.false_eq_true, if_false, hl, Result.andThen_ok, Sem.run_pure]
 | some u =>
  simp only [Sem.run_bind, Sem.run_pure, Result.andThen_ok] at hh ⊢
  rw [hh]
  simp only [Result.andThen_ok]
  cases lo with
  | none => simp only at hlo; simp [hlo]
  | some v => simp only [Sem.run_bind, Option.isSome_none, Bool.false_eq_true, if_false, hl, Result.andThen_ok, Sem.run_pure]

theorem D5o {sz : Nat} {es : List (List T)} {a : Option Addr} {cap l h : Nat} (hx : CT A w (.sl sz es) (.slice a es.length cap)) (h1 : l ≤ h) (h2 : h ≤ es.length) :
  CT A w (.sl sz ((es.drop l).take (h - l))) (.slice (if cap = l then a else a.map (·.add (l * sz))) (h - l) (cap - l)) := by
 simp only [CT] at hx ⊢
 obtain ⟨a', cap', he, hc, hr⟩ := hx
 injection he with he1 he2 he3; subst he1; subst he3
 have hlen : ((es.drop l).take (h - l)).length = h - l := by simp; omega
 refine ⟨_, cap - l, by rw [hlen], by rw [hlen]; omega, ?_⟩
 by_cases hz : (es.drop l).take (h - l) = []
 ·exact Or.inl hz
 ·rcases hr with hr | ⟨b, o, ha, hA, hr⟩
  ·subst hr; simp at hz
  ·refine Or.inr ⟨b, o + l * sz, ?_, hA, (hr.drop l).take _⟩
   have hne : ¬ cap = l := by
    intro hcl
    have : h - l = 0 := by omega
    rw [this] at hz; simp at hz
   rw [if_neg hne, ha]; simp [A2w]

theorem E0f {G : Nat → Option (List T)} {st : St} {n : Nat} {a : Act} (hG : GOK E G) (h : RS E F st.sto w A φ) (r : RE ds st n a w A φ) {t : TypeId} {x : Operand} {lo hi : Option Operand} {so : SOp} (hs : J5 P G (.slice t x lo hi none) = some so) {id : Nat} {y : AV} {wr : List (Nat × Ob)}
  (hc : J9 id so (·.ev st.env) st.sto = some (y, wr)) :
  ∃ v, (Instr.sliceAt t (a.eval x) (lo.map a.eval) (hi.map a.eval) none).run P w = .ok v w ∧ Did E F st.sto A φ w y v (G6 st.sto wr) w A φ := by
 have key : ∀ (sz : Nat) (xs : SV) (los his : Option SV), L9 G x = some xs → C29 G lo = some los → C29 G hi = some his → J9 id (.sli sz xs los his) (·.ev st.env) st.sto = some (y, wr) →
   ((sz = 0 ∧ P.underlying t = some .string) ∨ (sz ≠ 0 ∧ ∃ e, P.underlying t = some (.slice e) ∧ Q8 P e = some sz)) →
   ∃ v, (Instr.sliceAt t (a.eval x) (lo.map a.eval) (hi.map a.eval) none).run P w = .ok v w ∧ Did E F st.sto A φ w y v (G6 st.sto wr) w A φ := by
  intro sz xs los his hx hlo hhi hc ht
  have ev := M9 hG h r hx
  simp only [J9] at hc
  split at hc
  ·rename_i m hm
   split at hc
   ·rename_i k1 l k2 hh hl0 hh0
    split at hc
    ·rename_i hb
     obtain ⟨b1, b2, b3⟩ := hb
     have hlo' : match lo.map a.eval with | none => l = 0 | some v => ∃ k, v = .int k l := by
      cases lo with
      | none =>
       simp [C29] at hlo; subst hlo
       simp at hl0; exact hl0.2.symm
      | some u =>
       simp only [C29, Option.map_eq_some_iff] at hlo
       obtain ⟨us, hu, rfl⟩ := hlo
       simp only [Option.some.injEq] at hl0
       have eu := (M9 hG h r hu).1
       rw [hl0] at eu
       exact ⟨k1, (U3 eu).1⟩
     have hhi' : match hi.map a.eval with | none => hh = m | some v => ∃ k, v = .int k hh := by
      cases hi with
      | none =>
       simp [C29] at hhi; subst hhi
       simp at hh0; exact hh0.2.symm
      | some u =>
       simp only [C29, Option.map_eq_some_iff] at hhi
       obtain ⟨us, hu, rfl⟩ := hhi
       simp only [Option.some.injEq] at hh0
       have eu := (M9 hG h r hu).1
       rw [hh0] at eu
       exact ⟨k2, (U3 eu).1⟩
     have hnat : (hh - l).toNat = hh.toNat - l.toNat := by omega
     rcases D4g hm ev.1 with ⟨s, hv, hsm, hxs⟩ | ⟨ba, cap, hv, hcap⟩
     ·-- a text
      simp only [hxs] at hc
      split at hc
      ·rename_i hsz0
       have hu : P.underlying t = some .string := by
        rcases ht with ht | ht
        ·exact ht.2
        ·exact absurd hsz0 ht.1
       simp only [Option.some.injEq, Prod.mk.injEq] at hc
       obtain ⟨rfl, rfl⟩ := hc
       rw [hv]
       refine ⟨.string (s.extract l.toNat hh.toNat), ?_, Did.same h (B45 rfl) (by simp [AV.ids])⟩
       simp only [Instr.sliceAt, Sem.run_bind, run_underlying hu, Result.andThen_ok, Instr.slice, Option.isSome_none, Bool.false_eq_true, if_false, Sem.run_pure]
       rw [C4z (len := s.size) (cap := s.size) hlo' (by rw [hsm]; exact hhi') b1 b2 (by rw [hsm]; exact b3) (Nat.le_refl _)]
       simp
      ·simp at hc
     ·-- a slice
      have hnz : sz ≠ 0 := by
       intro hz
       split at hc
       ·rename_i s hxs
        have := ev.1; rw [hxs] at this
        have := (U3 this).1; rw [hv] at this; cases this
       ·simp [hz] at hc
       ·simp [hz] at hc
       ·simp [hz] at hc
       ·simp at hc
      obtain ⟨e, hu, hsz⟩ : ∃ e, P.underlying t = some (.slice e) ∧ Q8 P e = some sz := by
       rcases ht with ht | ht
       ·exact absurd ht.1 hnz
       ·exact ht.2
      have hrun : (Instr.sliceAt t (.slice ba m cap) (lo.map a.eval) (hi.map a.eval) none).run P w = .ok (.slice (if cap = l.toNat then ba else ba.map (·.add (l.toNat * sz))) (hh.toNat - l.toNat) (cap - l.toNat)) w := by
       simp only [Instr.sliceAt, Sem.run_bind, run_underlying hu, Result.andThen_ok, Instr.slice]
       rw [C4z hlo' hhi' b1 b2 b3 hcap]
       simp only [Result.andThen_ok, O1 hsz, Sem.run_pure]
      rw [hv, hrun]
      have hca := ev.1; rw [hv] at hca
      refine ⟨_, rfl, ?_⟩
      split at hc
      ·rename_i s hxs
       rw [hxs] at hca; have := (U3 hca).1; cases this
      ·rename_i s es hxs
       rw [hxs] at hca
       split at hc
       ·rename_i hss; obtain ⟨rfl, _⟩ := hss
        simp only [Option.some.injEq, Prod.mk.injEq] at hc
        obtain ⟨rfl, rfl⟩ := hc
        simp only [CA] at hca
        have hmes : m = es.length := by simp only [CT] at hca; obtain ⟨_, _, he, _⟩ := hca; injection he
        subst hmes
        refine Did.same h ?_ (by simp [AV.ids])
        simp only [CA]
        rw [hnat]
        exact D5o hca (by omega) (by omega)
       ·simp at hc
      ·rename_i j s off len0 r0 hxs
       rw [hxs] at hca
       split at hc
       ·rename_i hss; obtain ⟨rfl, _⟩ := hss
        simp only [Option.some.injEq, Prod.mk.injEq] at hc
        obtain ⟨rfl, rfl⟩ := hc
        refine Did.same h ?_ (fun i hi => ?_)
        ·simp only [CA] at hca ⊢
         obtain ⟨a', cap', he, hle, hrf, hr⟩ := hca
         injection he with he1 he2 he3; subst he1; subst he3
         refine ⟨_, cap - l.toNat, by rw [hnat], by omega, fun hf => by have := hrf hf; omega, ?_⟩
         by_cases hcl : cap = l.toNat
         ·exact Or.inl (by omega)
         ·rcases hr with hr | ⟨hr1, hr2⟩
          ·exact Or.inl (by omega)
          ·refine Or.inr ⟨?_, ?_⟩
           ·rw [if_neg hcl, hr1]; simp [A2w, Nat.add_mul]
           ·rwa [show off + l.toNat + (cap - l.toNat) = off + cap from by omega]
        ·simp only [AV.ids, List.mem_singleton] at hi; subst hi
         exact ev.2 _ (by rw [hxs]; simp [AV.ids])
       ·simp at hc
      ·rename_i hxs
       rw [hxs] at hca hm
       rw [if_pos hnz] at hc
       simp only [Option.some.injEq, Prod.mk.injEq] at hc
       obtain ⟨rfl, rfl⟩ := hc
       have := (U3 hca).1
       injection this with h1 h2 h3
       subst h1; subst h2; subst h3
       have e1 : l.toNat = 0 := by omega
       have e2 : hh.toNat = 0 := by omega
       rw [e1, e2]
       exact Did.same h (B45 rfl) (by simp [AV.ids])
      ·simp at hc
    ·simp at hc
   ·simp at hc
  ·simp at hc
 simp only [J5] at hs
 split at hs
 ·rename_i xs los his hu hx hlo hhi
  injection hs with hs; subst hs
  exact key 0 xs los his hx hlo hhi hc (Or.inl ⟨rfl, hu⟩)
 ·rename_i e xs los his hu hx hlo hhi
  split at hs
  ·rename_i m hm
   split at hs
   ·rename_i h0
    injection hs with hs; subst hs
    exact key m xs los his hx hlo hhi hc (Or.inr ⟨h0, e, hu, hm⟩)
   ·simp at hs
  ·simp at hs
 ·simp at hs

end
end Go.Sx

namespace Go.Sx
section
variable {P : Program} {E : Env} {F : Frm} {sto : Nat → Option Ob} {w : World} {A : Nat → Prop} {φ : Nat → Nat} {ds : List Deferred}

theorem A4g {sz n : Nat} {ba : Option Addr} {len cap : Nat} {vals : List Value} (hl : vals.length = n * sz) (h : vals = [] ∨ ∃ b o, ba = some ⟨b, o, none⟩ ∧ ∀ (j : Nat) v, vals[j]? = some v → w.cell? ⟨b, o + j, none⟩ = some v) :
  (Builtin.firstCells sz n (.slice ba len cap)).run P w = .ok vals.toArray w := by
 cases ba with
 | none =>
  rcases h with h | ⟨b, o, hb, _⟩
  ·subst h; simp [Builtin.firstCells]
  ·cases hb
 | some a =>
  simp only [Builtin.firstCells, ← hl]
  refine run_loadCells_list (P := P) w a vals fun j v hv => ?_
  rcases h with h | ⟨b, o, hb, hc⟩
  ·subst h; simp at hv
  ·injection hb with hb; subst hb; rw [A2w]; exact hc j v hv

/-- The elements of a slice that is read: its value, and its cells. -/
theorem B84 (h : RS E F sto w A φ) {sz : Nat} {x : AV} {xv : Value} {es : List (List T)} (hs : B1 sz sto x = some es) (hx : CA A φ w x xv) :
  ∃ ba cap vals, xv = .slice ba es.length cap ∧ H7 A φ w (es.flatten.map .t) vals ∧ (∀ e ∈ es, e.length = sz) ∧ vals.length = es.length * sz ∧
   (vals = [] ∨ ∃ b o, ba = some ⟨b, o, none⟩ ∧ ∀ (j : Nat) v, vals[j]? = some v → w.cell? ⟨b, o + j, none⟩ = some v) := by
 have rows : ∀ {b o : Nat} {ba : Option Addr} {cap : Nat}, xv = .slice ba es.length cap → E5 A w sz b o es → (es = [] ∨ ba = some ⟨b, o, none⟩) → ∃ ba cap vals, xv = .slice ba es.length cap ∧ H7 A φ w (es.flatten.map .t) vals ∧ (∀ e ∈ es, e.length = sz) ∧ vals.length = es.length * sz ∧
   (vals = [] ∨ ∃ b o, ba = some ⟨b, o, none⟩ ∧ ∀ (j : Nat) v, vals[j]? = some v → w.cell? ⟨b, o + j, none⟩ = some v) := by
  intro b o ba cap hv hr hb
  obtain ⟨vals, v1, v2, v3⟩ := hr.flatten.1.toCAs (φ := φ)
  refine ⟨ba, cap, vals, hv, v1, hr.lens, by rw [v2, hr.flatten.2], ?_⟩
  rcases hb with hb | hb
  ·subst hb; simp at v2; exact Or.inl v2
  ·exact Or.inr ⟨b, o, hb, v3⟩
 unfold B1 at hs
 split at hs
 ·rename_i id s off len r ho
  have e := AV.asOwn_eq ho; subst e
  split at hs
  ·rename_i hss; subst hss
   simp only [CA] at hx
   obtain ⟨a, cap, rfl, hle, hrf, hr⟩ := hx
   unfold B3 at hs
   split at hs
   ·rename_i s' real es' hob
    split at hs
    ·rename_i hc
     obtain ⟨rfl, hfit⟩ := hc
     injection hs with hs
     have hlen : es.length = len := by rw [← hs]; simp; omega
     have hco := h.obj id _ hob
     simp only [CO] at hco
     cases real with
     | false =>
      have := hco.1 rfl; subst this
      simp at hs; subst hs
      exact rows (b := 0) (o := 0) (ba := a) (cap := cap) (by rw [← hlen]) (by simp only [E5]) (Or.inl rfl)
     | true =>
      have hcr := ((hco.2 rfl).2.drop off).take len
      rw [hs, Nat.zero_add] at hcr
      refine rows (ba := a) (cap := cap) (by rw [hlen]) hcr ?_
      rcases hr with hr | hr
      ·left; apply List.eq_nil_of_length_eq_zero; omega
      ·exact Or.inr hr.1
    ·simp at hs
   ·rename_i s' es' hob
    split at hs
    ·rename_i hc
     obtain ⟨rfl, hfit⟩ := hc
     injection hs with hs
     have hlen : es.length = len := by rw [← hs]; simp; omega
     have hco := h.obj id _ hob
     simp only [CO] at hco
     have hcr := (hco.2.drop off).take len
     rw [hs, Nat.zero_add] at hcr
     refine rows (ba := a) (cap := cap) (by rw [hlen]) hcr ?_
     rcases hr with hr | hr
     ·left; apply List.eq_nil_of_length_eq_zero; omega
     ·exact Or.inr hr.1
    ·simp at hs
   ·simp at hs
  ·simp at hs
 ·rename_i ho
  unfold AV.asTree at hs
  split at hs
  ·rename_i s es'
   split at hs
   ·rename_i hss; subst hss
    injection hs with hs; subst hs
    simp only [CA, CT] at hx
    obtain ⟨a, cap, rfl, hle, hr⟩ := hx
    rcases hr with hr | ⟨b, o, ha, hA, hr⟩
    ·subst hr
     exact rows (b := 0) (o := 0) rfl (by simp only [E5]) (Or.inl rfl)
    ·exact rows rfl hr (Or.inr ha)
   ·simp at hs
  ·injection hs with hs; subst hs
   have := (U3 hx).1; subst this
   exact rows (b := 0) (o := 0) rfl (by simp only [E5]) (Or.inl rfl)
  ·simp at hs

theorem B7u {t u e e2 ty : TypeId} {i : TypeInfo} {zv : Value} (hu : P.underlying t = some (.slice e)) (hu2 : P.underlying u = some (.slice e2)) (hi : P.info? e = some i) (hz : ∀ w, (zeroValue e).run P w = .ok zv w)
  {ba bx : Option Addr} {len cap n cx : Nat} {olds vals : List Value} (ho : (Builtin.firstCells i.size len (.slice ba len cap)).run P w = .ok olds.toArray w) (hv : (Builtin.firstCells i.size n (.slice bx n cx)).run P w = .ok vals.toArray w)
  (hv' : (Builtin.firstCells i.size n (.slice bx n cx)).run P w.drew = .ok vals.toArray w.drew) (ho' : (Builtin.firstCells i.size len (.slice ba len cap)).run P w.drew = .ok olds.toArray w.drew)
  (hb : (len + n) * i.bytes ≤ 2 ^ 47) (more : Array TypeId) (vs : Array Value) (hm0 : more[0]? = some t) (hm1 : more[1]? = some u) (hv0 : vs[0]? = some (.slice ba len cap)) (hv1 : vs[1]? = some (.slice bx n cx)) (hbytes : 0 < i.bytes) :
  (len + n ≤ cap → ∀ w', (match ba with | some a => (storeCells (a.add (len * i.size)) vals).run P w | none => .ok () w) = .ok () w' → (Builtin.append_ more ty vs).run P w = .ok (.slice ba (len + n) cap) w') ∧
  (cap < len + n → ∃ nc, len + n ≤ nc ∧ (Builtin.append_ more ty vs).run P w = .ok (.slice (some ⟨w.heap.size, 0, none⟩) (len + n) nc) (w.drew.alloc (.cells (olds.toArray ++ vals.toArray ++ Builtin.zeroCells zv.cells (nc - (len + n))) e))) := by
 have hsz : Q8 P e = some i.size := by simp [Q8, hi]
 constructor
 ·intro hle w' hst
  simp only [Builtin.append_, hm0, hv0, hv1, hm1, Sem.run_bind, run_underlying hu, run_underlying hu2, Result.andThen_ok, O1 hsz, Sem.run_pure, Bool.false_eq_true, if_false, Builtin.lenOf, if_pos hle, Bool.not_false, if_true, hv]
  cases ba with
  | none => simp only at hst; injection hst with h1 h2; subst h2; simp
  | some a => simp only at hst; simp [hst]
 ·intro hlt
  have hbig : ¬ (Builtin.nextslicecap (len + n) cap * i.bytes > 2 ^ 48) := by
   have := growslice_fits (need := len + n) (old := cap) (bytes := i.bytes) hlt (by omega)
   omega
  have hb0 : i.bytes ≠ 0 := by omega
  refine ⟨Question.cut (.appendCap (len + n) cap e) (w.tape w.drawn (.appendCap (len + n) cap e)), by simp [Question.cut], ?_⟩
  simp only [Builtin.append_, hm0, hv0, hv1, hm1, Sem.run_bind, run_underlying hu, run_underlying hu2, Result.andThen_ok, O1 hsz, Sem.run_pure, Bool.false_eq_true, if_false, Builtin.lenOf, if_neg (Nat.not_le.2 hlt), Bool.not_false, if_true, typeInfo, run_program, hi, hb0, false_or, and_false, run_choose, Question.forced]
  rw [if_neg hbig]
  simp only [Sem.run_bind, Sem.run_pure, Result.andThen_ok, run_choose, Question.forced, Bool.false_eq_true, if_false, run_askRoom, World.drew_eq, run_program, hi, ho', hv', hz, newRow, run_newObj]
  rfl

theorem Did.from {E : Env} {F : Frm} {sto sto1 : Nat → Option Ob} {A A' : Nat → Prop} {φ φ' : Nat → Nat} {w w' : World} {x : AV} {v : Value} {sto' : Nat → Option Ob} (h : Did E F sto1 A φ w x v sto' w' A' φ') (hs : ∀ i, (sto i).isSome = true → (sto1 i).isSome = true) :
  Did E F sto A φ w x v sto' w' A' φ' := ⟨h.rs, h.go, fun i hi => h.ph i (hs i hi), fun i hi => h.mo i (hs i hi), h.ca, h.nd⟩

/-- Append into a new row. -/
theorem D06 (h : RS E F sto w A φ) {id sz : Nat} (hn : Q7 sto id = true) {es new : List (List T)} {olds vals : List Value} (e : TypeId) {nc : Nat} {zc : Array Value} (hzc : zc.size = sz)
  (ho1 : H7 A φ w (es.flatten.map .t) olds) (ho2 : ∀ e ∈ es, e.length = sz) (ho3 : olds.length = es.length * sz)
  (hv1 : H7 A φ w (new.flatten.map .t) vals) (hv2 : ∀ e ∈ new, e.length = sz) (hv3 : vals.length = new.length * sz) (hnc : es.length + new.length ≤ nc) :
  Did E F sto A φ w (.own id sz 0 (es.length + new.length) true) (.slice (some ⟨w.heap.size, 0, none⟩) (es.length + new.length) nc) (G6 sto [(id, .row sz true (es ++ new))])
   (w.drew.alloc (.cells (olds.toArray ++ vals.toArray ++ Builtin.zeroCells zc (nc - (es.length + new.length))) e)) A (upd φ id w.heap.size) := by
 have hd := h.drew
 have hca : H7 A φ w.drew ((es ++ new).flatten.map .t) (olds ++ vals) := by
  rw [List.flatten_append, List.map_append]
  exact (H7.goes (A5v A w) _ _ (fun _ _ => rfl) ho1).append (H7.goes (A5v A w) _ _ (fun _ _ => rfl) hv1)
 have hlen : (olds ++ vals).length = (es.length + new.length) * sz := by rw [List.length_append, ho3, hv3, Nat.add_mul]
 have hsize : nc * sz ≤ (olds.toArray ++ vals.toArray ++ Builtin.zeroCells zc (nc - (es.length + new.length))).size := by
  rw [Array.size_append, size_zeroCells, hzc]
  have : (olds.toArray ++ vals.toArray).size = (es.length + new.length) * sz := by simpa using hlen
  rw [this, ← Nat.add_mul]
  exact Nat.mul_le_mul_right _ (by omega)
 have hr := C92 hd hn (sz := sz) (es := es ++ new) (ys := olds.toArray ++ vals.toArray ++ Builtin.zeroCells zc (nc - (es.length + new.length))) e (len := es.length + new.length) (cap := nc) (by simp) hnc hsize
  (fun x hx => by
   rcases List.mem_append.1 hx with hx | hx
   ·exact ho2 x hx
   ·exact hv2 x hx)
  (by
   have : ((olds.toArray ++ vals.toArray ++ Builtin.zeroCells zc (nc - (es.length + new.length))).toList.take ((es.length + new.length) * sz)) = olds ++ vals := by
    simp only [Array.toList_append]
    rw [List.take_left' hlen]
   rw [this]; exact hca)
 exact ⟨hr.rs, (A5v A w).trans hr.go, hr.ph, hr.mo, hr.ca, hr.nd⟩

/-- Append to nothing. -/
theorem D9x (h : RS E F sto w A φ) {t u e e2 ty : TypeId} {i : TypeInfo} {z : List T} (hu : P.underlying t = some (.slice e)) (hu2 : P.underlying u = some (.slice e2)) (hi : P.info? e = some i) (hz : B50 P e = some z) (hzl : z.length = i.size)
  {bx : Option Addr} {cx : Nat} {new : List (List T)} {vals : List Value}
  (hv1 : H7 A φ w (new.flatten.map .t) vals) (hv2 : ∀ e ∈ new, e.length = i.size) (hv3 : vals.length = new.length * i.size) (hv4 : vals = [] ∨ ∃ b o, bx = some ⟨b, o, none⟩ ∧ ∀ (j : Nat) v, vals[j]? = some v → w.cell? ⟨b, o + j, none⟩ = some v)
  (hb : new.length * i.bytes ≤ 2 ^ 47) (hbytes : 0 < i.bytes) (more : Array TypeId) (vs : Array Value) (hm0 : more[0]? = some t) (hm1 : more[1]? = some u)
  (hw0 : vs[0]? = some (.slice none 0 0)) (hw1 : vs[1]? = some (.slice bx new.length cx)) {id : Nat} (hn : Q7 sto id = true) :
  ∃ v w' φ', (Builtin.append_ more ty vs).run P w = .ok v w' ∧ Did E F sto A φ w (.own id i.size 0 new.length (!new.isEmpty)) v (G6 sto [(id, .row i.size (!new.isEmpty) new)]) w' A φ' := by
 obtain ⟨zv, z1, z2, z3, z4⟩ := A6f hz
 have hzc : zv.cells.size = i.size := by rw [← hzl, z4]; simp
 have ho : ∀ w : World, (Builtin.firstCells i.size 0 (.slice none 0 0)).run P w = .ok ([] : List Value).toArray w := fun w => A4g (by simp) (Or.inl rfl)
 have hvr : (Builtin.firstCells i.size new.length (.slice bx new.length cx)).run P w = .ok vals.toArray w := A4g hv3 hv4
 have hvr' : (Builtin.firstCells i.size new.length (.slice bx new.length cx)).run P w.drew = .ok vals.toArray w.drew := A4g hv3 hv4
 obtain ⟨r1, r2⟩ := B7u (P := P) (ty := ty) (w := w) hu hu2 hi z1 (ho w) hvr hvr' (ho w.drew) (by simpa using hb) more vs hm0 hm1 hw0 hw1 hbytes
 cases new with
 | nil =>
  have := r1 (by simp) w rfl
  refine ⟨_, w, φ, this, (h.virt (O7 hn)), Goes.refl A w, fun _ _ => rfl, fun j hj => J4 hj, ?_, ?_⟩
  ·simp only [CA]; exact ⟨none, 0, by simp, by simp, by simp, Or.inl rfl⟩
  ·intro k hk; simp [AV.ids] at hk; subst hk; simp [G6]
 | cons n ns =>
  obtain ⟨nc, hnc, hrun⟩ := r2 (by simp)
  have hg := D06 h hn (es := []) (new := n :: ns) (olds := []) (vals := vals) e (nc := nc) hzc (by simp [H7]) (by simp) (by simp) hv1 hv2 hv3 (by simpa using hnc)
  simp only [List.length_nil, Nat.zero_add, List.nil_append] at hg hrun
  exact ⟨_, _, _, hrun, hg⟩

/-- Append to a row of one's own. -/
theorem D9z (h : RS E F sto w A φ) {t u e e2 ty : TypeId} {i : TypeInfo} {z : List T} (hu : P.underlying t = some (.slice e)) (hu2 : P.underlying u = some (.slice e2)) (hi : P.info? e = some i) (hz : B50 P e = some z) (hzl : z.length = i.size)
  {bx : Option Addr} {cx : Nat} {new es : List (List T)} {vals : List Value} {j : Nat} {r : Bool} {sv : Value} (hj : sto j = some (.row i.size r es)) (hj100 : 100 ≤ j) (hs : CA A φ w (.own j i.size 0 es.length r) sv)
  (hv1 : H7 A φ w (new.flatten.map .t) vals) (hv2 : ∀ e ∈ new, e.length = i.size) (hv3 : vals.length = new.length * i.size) (hv4 : vals = [] ∨ ∃ b o, bx = some ⟨b, o, none⟩ ∧ ∀ (j : Nat) v, vals[j]? = some v → w.cell? ⟨b, o + j, none⟩ = some v)
  (hb : (es.length + new.length) * i.bytes ≤ 2 ^ 47) (hbytes : 0 < i.bytes) (more : Array TypeId) (vs : Array Value) (hm0 : more[0]? = some t) (hm1 : more[1]? = some u)
  (hw0 : vs[0]? = some sv) (hw1 : vs[1]? = some (.slice bx new.length cx)) {id : Nat} (hn : Q7 sto id = true) :
  ∃ v w' φ', (Builtin.append_ more ty vs).run P w = .ok v w' ∧ Did E F sto A φ w (.own id i.size 0 (es.length + new.length) (r || !new.isEmpty)) v (G6 sto [(j, .dead), (id, .row i.size (r || !new.isEmpty) (es ++ new))]) w' A φ' := by
 obtain ⟨zv, z1, z2, z3, z4⟩ := A6f hz
 have hzc : zv.cells.size = i.size := by rw [← hzl, z4]; simp
 have hn' : sto id = none := O7 hn
 have hjid : j ≠ id := fun e => by rw [e, hn'] at hj; cases hj
 have hst : B1 i.size sto (.own j i.size 0 es.length r) = some es := by simp [B1, AV.asOwn, B3, hj]
 obtain ⟨ba, cap, olds, hsv, ho1, ho2, ho3, ho4⟩ := B84 h hst hs
 subst hsv
 have ho : ∀ w' : World, w'.heap = w.heap → (Builtin.firstCells i.size es.length (.slice ba es.length cap)).run P w' = .ok olds.toArray w' := fun w' hw' => A4g ho3 (by
  rcases ho4 with ho4 | ⟨b, o, hb, hc⟩
  ·exact Or.inl ho4
  ·exact Or.inr ⟨b, o, hb, fun k v hv => by have := hc k v hv; simp only [World.cell?, hw'] at this ⊢; exact this⟩)
 have hv : ∀ w' : World, w'.heap = w.heap → (Builtin.firstCells i.size new.length (.slice bx new.length cx)).run P w' = .ok vals.toArray w' := fun w' hw' => A4g hv3 (by
  rcases hv4 with ho4 | ⟨b, o, hb, hc⟩
  ·exact Or.inl ho4
  ·exact Or.inr ⟨b, o, hb, fun k v hv => by have := hc k v hv; simp only [World.cell?, hw'] at this ⊢; exact this⟩)
 obtain ⟨r1, r2⟩ := B7u (P := P) (ty := ty) (w := w) hu hu2 hi z1 (ho w rfl) (hv w rfl) (hv w.drew rfl) (ho w.drew rfl) hb more vs hm0 hm1 hw0 hw1 hbytes
 have hk := h.kill hj
 have hn1 : Q7 (upd sto j (some .dead)) id = true := by unfold Q7 at hn ⊢; rw [D5 _ _ (Ne.symm hjid)]; exact hn
 have hmo : ∀ k, (sto k).isSome = true → ((upd sto j (some .dead)) k).isSome = true := fun k hk => by unfold upd; split <;> simp [hk]
 have hne : ∀ k, (sto k).isSome = true → k ≠ id := fun k hk e => by rw [e, hn'] at hk; simp at hk
 simp only [CA] at hs
 obtain ⟨a', cap', he, hle, hrf, hroom⟩ := hs
 injection he with he1 he2 he3; subst he1; subst he3
 by_cases hgrow : cap < es.length + new.length
 ·obtain ⟨nc, hnc, hrun⟩ := r2 hgrow
  have hg := (D06 hk hn1 (es := es) (new := new) (olds := olds) (vals := vals) e (nc := nc) hzc ho1 ho2 ho3 hv1 hv2 hv3 hnc).from hmo
  have hne0 : new ≠ [] := by intro h0; subst h0; simp at hgrow; omega
  have e1 : (r || !new.isEmpty) = true := by cases new with | nil => exact absurd rfl hne0 | cons => simp
  rw [e1]
  exact ⟨_, _, _, hrun, hg⟩
 ·by_cases h0 : new = []
  ·-- nothing is appended
   subst h0
   have hvn : vals = [] := List.eq_nil_of_length_eq_zero (by simpa using hv3)
   subst hvn
   have hst : (match ba with | some a => (storeCells (a.add (es.length * i.size)) []).run P w | none => .ok () w) = .ok () w := by cases ba <;> simp [storeCells]
   have hrun := r1 (by simpa using hle) w hst
   simp only [List.length_nil, Nat.add_zero, List.isEmpty_nil, Bool.not_true, Bool.or_false, List.append_nil] at hrun ⊢
   cases r with
   | false =>
    have hes : es = [] := by have := h.obj j _ hj; simp only [CO] at this; exact this.1 trivial
    subst hes
    refine ⟨_, w, φ, hrun, hk.virt (O7 hn1), Goes.refl A w, fun _ _ => rfl, fun k hk => J4 hk, ?_, ?_⟩
    ·simp only [CA]; exact ⟨ba, cap, rfl, hle, fun _ => hrf rfl, Or.inl (hrf rfl)⟩
    ·intro k hk; simp [AV.ids] at hk; subst hk; simp [G6]
   | true =>
    have hl := h.liv j _ hj rfl
    have hF : F.w.heap.size ≤ φ j := by
     rcases hl.2.2 with ⟨hio, _⟩ | hl
     ·have := h.ioc j hio; omega
     ·exact hl
    have hco := h.obj j _ hj
    refine ⟨_, w, upd φ id (φ j), hrun, hk.adopt (O7 hn1) (A32 hn) hl.1 hl.2.1 hF (fun k o ho hlv hk => ?_) (fun q hq => by simp [Ob.ids] at hq) ?_, Goes.refl A w, fun k hk => D5 _ _ (hne k hk), fun k hk => J4 hk, ?_, ?_⟩
    ·by_cases hkj : k = j
     ·subst hkj; simp at ho; subst ho; simp [Ob.live] at hlv
     ·rw [D5 _ _ hkj] at ho
      exact h.inj k j o _ ho hj hlv rfl hkj hk
    ·simp only [CO] at hco ⊢; exact hco
    ·simp only [CA, A1e]
     exact ⟨ba, cap, rfl, hle, by simp, by simpa using hroom⟩
    ·intro k hk; simp [AV.ids] at hk; subst hk; simp [G6]
  ·-- within the room
   have hnl : 0 < new.length := List.length_pos_iff.2 h0
   have hcap : cap ≠ 0 := by omega
   have hrt : r = true := by cases r with | true => rfl | false => exact absurd (hrf rfl) hcap
   subst hrt
   rcases hroom with hroom | ⟨hba, hrc⟩
   ·exact absurd hroom hcap
   rw [Nat.zero_mul] at hba
   subst hba
   have hl := h.liv j _ hj rfl
   have hF : F.w.heap.size ≤ φ j := by
    rcases hl.2.2 with ⟨hio, _⟩ | hl
    ·have := h.ioc j hio; omega
    ·exact hl
   have hco := h.obj j _ hj
   simp only [CO] at hco
   obtain ⟨⟨ys, et, hheap⟩, hrows⟩ := hco.2 trivial
   obtain ⟨ys2, et2, hheap2, hfit⟩ := hrc
   rw [hheap] at hheap2; injection hheap2 with hh; injection hh with hh1 hh2; subst hh1
   rw [Nat.zero_add] at hfit
   have hfit2 : es.length * i.size + vals.length ≤ ys.size := by
    rw [hv3, ← Nat.add_mul]
    exact Nat.le_trans (Nat.mul_le_mul_right _ (by omega)) hfit
   have v1 : ∀ v ∈ vals, v.oneCell' = true := fun v hv => by
    obtain ⟨x, hx, hc⟩ := H7.mem hv1 v hv
    obtain ⟨c, _, rfl⟩ := List.mem_map.1 hx
    simp only [CA] at hc; exact CT.oneCell hc
   have hstore := run_storeCells_at P (φ j) (es.length * i.size) et vals 0 ys w hheap (by simpa using hfit2) v1
   have hrun := r1 (by omega) _ (by simp only [A2w, Nat.zero_add]; exact hstore)
   have hsp : (ys.toList.take (es.length * i.size + 0) ++ vals ++ ys.toList.drop (es.length * i.size + 0 + vals.length)) = splice ys.toList (es.length * i.size) vals := by simp [splice]
   rw [hsp] at hrun
   have hlen : (splice ys.toList (es.length * i.size) vals).toArray.size = ys.size := by
    simp only [List.size_toArray]; rw [A0y (by simpa using hfit2)]; simp
   have hg : Goes A A w (w.setRow (φ j) (splice ys.toList (es.length * i.size) vals).toArray) := A1l hheap hlen hl.1
   have hnew := setRow_heap w (φ j) ys (splice ys.toList (es.length * i.size) vals).toArray et (0, 0) hheap
   have hlo : ∀ k, k < es.length * i.size → (w.setRow (φ j) (splice ys.toList (es.length * i.size) vals).toArray).cell? ⟨φ j, k, none⟩ = w.cell? ⟨φ j, k, none⟩ := fun k hk => by
    rw [D9 hnew, D9 hheap, List.getElem?_toArray, A22 (by simpa using hfit2) hk]; simp
   have hmid : ∀ q u, vals[q]? = some u → (w.setRow (φ j) (splice ys.toList (es.length * i.size) vals).toArray).cell? ⟨φ j, es.length * i.size + q, none⟩ = some u := fun q u hu => by
    have hq := (List.getElem?_eq_some_iff.1 hu).1
    rw [D9 hnew, List.getElem?_toArray, A1i (by simpa using hfit2) (by omega) (by omega), Nat.add_sub_cancel_left]; exact hu
   have hrow : E5 A (w.setRow (φ j) (splice ys.toList (es.length * i.size) vals).toArray) i.size (φ j) 0 (es ++ new) := by
    rw [E5.append]
    refine ⟨E5.congr hg.keeps (fun k hk => by rw [Nat.zero_add]; exact hlo k hk) hrows, E5.of hv2 (D0.of hg hv1 fun q u hu => ?_)⟩
    rw [Nat.zero_add]; exact hmid q u hu
   have hw := h.write (ob := .row i.size true (es ++ new)) hj rfl hheap hlen (fun k hk => by simp [Ob.ids] at hk) (by simp only [CO]; exact ⟨by simp, fun _ => ⟨⟨_, et, hnew⟩, hrow⟩⟩)
   have hk2 := hw.kill (id := j) (o0 := .row i.size true (es ++ new)) (by simp)
   have hupd : upd (upd sto j (some (.row i.size true (es ++ new)))) j (some .dead) = upd sto j (some .dead) := by
    funext k; unfold upd; split <;> rfl
   rw [hupd] at hk2
   refine ⟨_, _, upd φ id (φ j), hrun, ?_, hg, fun k hk => D5 _ _ (hne k hk), fun k hk => J4 hk, ?_, ?_⟩
   ·simp only [Bool.true_or, G6]
    refine hk2.adopt (O7 hn1) (A32 hn) hl.1 (by rw [setRow_size]; exact hl.2.1) hF (fun k o ho hlv hk => ?_) (fun q hq => by simp [Ob.ids] at hq) ?_
    ·by_cases hkj : k = j
     ·subst hkj; simp at ho; subst ho; simp [Ob.live] at hlv
     ·rw [D5 _ _ hkj] at ho
      exact h.inj k j o _ ho hj hlv rfl hkj hk
    ·simp only [CO]; exact ⟨by simp, fun _ => ⟨⟨_, et, hnew⟩, hrow⟩⟩
   ·simp only [CA, A1e, Bool.true_or]
    exact ⟨_, cap, rfl, by omega, by simp, Or.inr ⟨by simp, _, et, hnew, by rw [hlen, Nat.zero_add]; exact hfit⟩⟩
   ·intro k hk; simp [AV.ids] at hk; subst hk; simp [G6]

/-- Append to a row of one's own, whose cells may be one's own. -/
theorem D6x (h : RS E F sto w A φ) {t u e e2 ty : TypeId} {i : TypeInfo} {z : List T} (hu : P.underlying t = some (.slice e)) (hu2 : P.underlying u = some (.slice e2)) (hi : P.info? e = some i) (hz : B50 P e = some z) (hzl : z.length = i.size)
  {bx : Option Addr} {cx : Nat} {new : List (List T)} {es : List (List AV)} {vals : List Value} {j : Nat} {r : Bool} {sv : Value} (hj : sto j = some (.rowA i.size es)) (hj100 : 100 ≤ j) (hs : CA A φ w (.own j i.size 0 es.length r) sv)
  (hv1 : H7 A φ w (new.flatten.map .t) vals) (hv2 : ∀ e ∈ new, e.length = i.size) (hv3 : vals.length = new.length * i.size) (hv4 : vals = [] ∨ ∃ b o, bx = some ⟨b, o, none⟩ ∧ ∀ (j : Nat) v, vals[j]? = some v → w.cell? ⟨b, o + j, none⟩ = some v)
  (hb : (es.length + new.length) * i.bytes ≤ 2 ^ 47) (hbytes : 0 < i.bytes) (more : Array TypeId) (vs : Array Value) (hm0 : more[0]? = some t) (hm1 : more[1]? = some u)
  (hw0 : vs[0]? = some sv) (hw1 : vs[1]? = some (.slice bx new.length cx)) {id : Nat} (hn : Q7 sto id = true) :
  ∃ v w' φ', (Builtin.append_ more ty vs).run P w = .ok v w' ∧ Did E F sto A φ w (.own id i.size 0 (es.length + new.length) true) v (G6 sto [(j, .dead), (id, .rowA i.size (es ++ new.map (List.map AV.t)))]) w' A φ' := by
 obtain ⟨zv, z1, z2, z3, z4⟩ := A6f hz
 have hzc : zv.cells.size = i.size := by rw [← hzl, z4]; simp
 have hn' : sto id = none := O7 hn
 have hjid : j ≠ id := fun e => by rw [e, hn'] at hj; cases hj
 have hob := h.obj j _ hj
 simp only [CO] at hob
 obtain ⟨hl, ys, et, hheap, pre, post, g2, g3, g4⟩ := hob
 have hpl : pre.length = es.length * i.size := by rw [g3.length, D1z hl]
 have hys : ys.size = pre.length + post.length := by rw [← Array.length_toList, g2]; simp
 simp only [CA] at hs
 obtain ⟨ba, cap, rfl, hle, hrf, hroom⟩ := hs
 have hcell : ∀ k v, pre[k]? = some v → w.cell? ⟨φ j, k, none⟩ = some v := fun k v hv => by
  rw [D9 hheap, ← Array.getElem?_toList, g2, List.getElem?_append_left (List.getElem?_eq_some_iff.1 hv).1]; exact hv
 have ho : ∀ w' : World, w'.heap = w.heap → (Builtin.firstCells i.size es.length (.slice ba es.length cap)).run P w' = .ok pre.toArray w' := fun w' hw' => A4g hpl (by
  rcases hroom with h0 | ⟨ha, _⟩
  ·left; apply List.eq_nil_of_length_eq_zero; rw [hpl, show es.length = 0 by omega]; simp
  ·exact Or.inr ⟨φ j, 0, by simpa using ha, fun k v hv => by have := hcell k v hv; simp only [World.cell?, hw', Nat.zero_add] at this ⊢; exact this⟩)
 have hv : ∀ w' : World, w'.heap = w.heap → (Builtin.firstCells i.size new.length (.slice bx new.length cx)).run P w' = .ok vals.toArray w' := fun w' hw' => A4g hv3 (by
  rcases hv4 with ho4 | ⟨b, o, hb, hc⟩
  ·exact Or.inl ho4
  ·exact Or.inr ⟨b, o, hb, fun k v hv => by have := hc k v hv; simp only [World.cell?, hw'] at this ⊢; exact this⟩)
 obtain ⟨r1, r2⟩ := B7u (P := P) (ty := ty) (w := w) hu hu2 hi z1 (ho w rfl) (hv w rfl) (hv w.drew rfl) (ho w.drew rfl) hb more vs hm0 hm1 hw0 hw1 hbytes
 have hk := h.kill hj
 have hn1 : Q7 (upd sto j (some .dead)) id = true := by unfold Q7 at hn ⊢; rw [D5 _ _ (Ne.symm hjid)]; exact hn
 have hne : ∀ k, (sto k).isSome = true → k ≠ id := fun k hk e => by rw [e, hn'] at hk; simp at hk
 have hmo : ∀ k, (sto k).isSome = true → ((upd sto j (some .dead)) k).isSome = true := fun k hk => by unfold upd; split <;> simp [hk]
 have hflat : (es ++ new.map (List.map AV.t)).flatten = es.flatten ++ new.flatten.map .t := by rw [List.flatten_append, List.map_flatten]
 have hca : H7 A φ w (es ++ new.map (List.map AV.t)).flatten (pre ++ vals) := by rw [hflat]; exact g3.append hv1
 have hids : ∀ k ∈ B5 (es ++ new.map (List.map AV.t)).flatten, (sto k).isSome = true := fun k hk => by
  rw [hflat] at hk
  obtain ⟨x, hx, hi⟩ := A3t.1 hk
  rcases List.mem_append.1 hx with hx | hx
  ·exact h.nod j _ hj k (by simp only [Ob.ids]; exact A3t.2 ⟨x, hx, hi⟩)
  ·obtain ⟨c, _, rfl⟩ := List.mem_map.1 hx
   simp [AV.ids] at hi
 have hlens : ∀ x ∈ es ++ new.map (List.map AV.t), x.length = i.size := fun x hx => by
  rcases List.mem_append.1 hx with hx | hx
  ·exact hl x hx
  ·obtain ⟨c, hc, rfl⟩ := List.mem_map.1 hx
   rw [List.length_map]; exact hv2 c hc
 have v1 : ∀ v ∈ vals, v.oneCell' = true := fun v hv => by
  obtain ⟨x, hx, hc⟩ := H7.mem hv1 v hv
  obtain ⟨c, _, rfl⟩ := List.mem_map.1 hx
  simp only [CA] at hc; exact CT.oneCell hc
 have hone : ∀ y ∈ pre ++ vals, y.oneCell' = true := fun y hy => by
  rcases List.mem_append.1 hy with hy | hy
  ·exact g4 y hy
  ·exact v1 y hy
 by_cases hgrow : cap < es.length + new.length
 ·obtain ⟨nc, hnc, hrun⟩ := r2 hgrow
  have hd := hk.drew
  have hg : Goes A A w (w.drew.alloc (.cells (pre.toArray ++ vals.toArray ++ Builtin.zeroCells zv.cells (nc - (es.length + new.length))) e)) := (A5v A w).trans (A9g hd _)
  have hnew : (w.drew.alloc (.cells (pre.toArray ++ vals.toArray ++ Builtin.zeroCells zv.cells (nc - (es.length + new.length))) e)).heap[w.heap.size]? = some (.cells (pre.toArray ++ vals.toArray ++ Builtin.zeroCells zv.cells (nc - (es.length + new.length))) e (0, 0)) := by
   show (w.heap.push _)[w.heap.size]? = _; simp
  have hsize : nc * i.size ≤ (pre.toArray ++ vals.toArray ++ Builtin.zeroCells zv.cells (nc - (es.length + new.length))).size := by
   rw [Array.size_append, size_zeroCells, hzc]
   have : (pre.toArray ++ vals.toArray).size = (es.length + new.length) * i.size := by
    rw [Array.size_append, List.size_toArray, List.size_toArray, hpl, hv3, Nat.add_mul]
   rw [this, ← Nat.add_mul]
   exact Nat.mul_le_mul_right _ (by omega)
  refine ⟨_, _, upd φ id w.heap.size, hrun, ?_, hg, fun k hk => D5 _ _ (hne k hk), fun k hk => J4 hk, ?_, ?_⟩
  ·simp only [G6]
   refine hd.alloc (O7 hn1) (A32 hn) _ e _ (fun k hk => hmo k (hids k (by simpa only [Ob.ids] using hk))) ?_
   simp only [CO]
   refine ⟨hlens, _, e, hnew, pre ++ vals, (Builtin.zeroCells zv.cells (nc - (es.length + new.length))).toList, by simp, ?_, hone⟩
   exact H7.goes hg _ _ (fun k hk => D5 _ _ (hne k (hids k hk))) hca
  ·simp only [CA, A1e]
   exact ⟨_, nc, rfl, hnc, by simp, Or.inr ⟨by simp, _, e, hnew, by rw [Nat.zero_add]; exact hsize⟩⟩
  ·intro k hk; simp [AV.ids] at hk; subst hk; simp [G6]
 ·have hlv := h.liv j _ hj rfl
  have hF : F.w.heap.size ≤ φ j := by
   rcases hlv.2.2 with ⟨hio, _⟩ | hlv
   ·have := h.ioc j hio; omega
   ·exact hlv
  by_cases h0 : new = []
  ·subst h0
   have hvn : vals = [] := List.eq_nil_of_length_eq_zero (by simpa using hv3)
   subst hvn
   have hst : (match ba with | some a => (storeCells (a.add (es.length * i.size)) []).run P w | none => .ok () w) = .ok () w := by cases ba <;> simp [storeCells]
   have hrun := r1 (by simpa using hle) w hst
   simp only [List.length_nil, Nat.add_zero, List.map_nil, List.append_nil] at hrun ⊢
   refine ⟨_, w, upd φ id (φ j), hrun, ?_, Goes.refl A w, fun k hk => D5 _ _ (hne k hk), fun k hk => J4 hk, ?_, ?_⟩
   ·simp only [G6]
    refine hk.adopt (O7 hn1) (A32 hn) hlv.1 hlv.2.1 hF (fun k o ho hl2 hk => ?_) (fun k hk => hmo k (h.nod j _ hj k hk)) ?_
    ·by_cases hkj : k = j
     ·subst hkj; simp at ho; subst ho; simp [Ob.live] at hl2
     ·rw [D5 _ _ hkj] at ho
      exact h.inj k j o _ ho hj hl2 rfl hkj hk
    ·simp only [CO]
     exact ⟨hl, ys, et, hheap, pre, post, g2, H7.goes (Goes.refl A w) _ _ (fun k hk => D5 _ _ (hne k (h.nod j _ hj k (by simpa only [Ob.ids] using hk)))) g3, g4⟩
   ·simp only [CA, A1e]
    exact ⟨ba, cap, rfl, hle, by simp, by simpa using hroom⟩
   ·intro k hk; simp [AV.ids] at hk; subst hk; simp [G6]
  ·have hnl : 0 < new.length := List.length_pos_iff.2 h0
   have hcap : cap ≠ 0 := by omega
   rcases hroom with hroom | ⟨hba, hrc⟩
   ·exact absurd hroom hcap
   rw [Nat.zero_mul] at hba
   subst hba
   obtain ⟨ys2, et2, hheap2, hfit⟩ := hrc
   rw [hheap] at hheap2; injection hheap2 with hh; injection hh with hh1 hh2; subst hh1
   rw [Nat.zero_add] at hfit
   have hfit2 : es.length * i.size + vals.length ≤ ys.size := by
    rw [hv3, ← Nat.add_mul]
    exact Nat.le_trans (Nat.mul_le_mul_right _ (by omega)) hfit
   have hstore := run_storeCells_at P (φ j) (es.length * i.size) et vals 0 ys w hheap (by simpa using hfit2) v1
   have hrun := r1 (by omega) _ (by simp only [A2w, Nat.zero_add]; exact hstore)
   have hsp : (ys.toList.take (es.length * i.size + 0) ++ vals ++ ys.toList.drop (es.length * i.size + 0 + vals.length)) = pre ++ vals ++ post.drop vals.length := by
    rw [g2, Nat.add_zero, ← hpl, List.take_left, ← List.drop_drop, List.drop_left]
   rw [hsp] at hrun
   have hlen : (pre ++ vals ++ post.drop vals.length).toArray.size = ys.size := by
    simp only [List.size_toArray, List.length_append, List.length_drop]; omega
   have hg : Goes A A w (w.setRow (φ j) (pre ++ vals ++ post.drop vals.length).toArray) := A1l hheap hlen hlv.1
   have hnew := setRow_heap w (φ j) ys (pre ++ vals ++ post.drop vals.length).toArray et (0, 0) hheap
   have hw := h.write (ob := .rowA i.size (es ++ new.map (List.map AV.t))) hj rfl hheap hlen (fun k hk => hids k (by simpa only [Ob.ids] using hk))
    (by simp only [CO]; exact ⟨hlens, _, et, hnew, pre ++ vals, post.drop vals.length, by simp, H7.goes hg _ _ (fun _ _ => rfl) hca, hone⟩)
   have hk2 := hw.kill (id := j) (o0 := .rowA i.size (es ++ new.map (List.map AV.t))) (by simp)
   have hupd : upd (upd sto j (some (.rowA i.size (es ++ new.map (List.map AV.t))))) j (some .dead) = upd sto j (some .dead) := by
    funext k; unfold upd; split <;> rfl
   rw [hupd] at hk2
   refine ⟨_, _, upd φ id (φ j), hrun, ?_, hg, fun k hk => D5 _ _ (hne k hk), fun k hk => J4 hk, ?_, ?_⟩
   ·simp only [G6]
    refine hk2.adopt (O7 hn1) (A32 hn) hlv.1 (by rw [setRow_size]; exact hlv.2.1) hF (fun k o ho hl2 hk => ?_) (fun k hk => hmo k (hids k (by simpa only [Ob.ids] using hk))) ?_
    ·by_cases hkj : k = j
     ·subst hkj; simp at ho; subst ho; simp [Ob.live] at hl2
     ·rw [D5 _ _ hkj] at ho
      exact h.inj k j o _ ho hj hl2 rfl hkj hk
    ·simp only [CO]
     exact ⟨hlens, _, et, hnew, pre ++ vals, post.drop vals.length, by simp, H7.goes hg _ _ (fun k hk => D5 _ _ (hne k (hids k hk))) hca, hone⟩
   ·simp only [CA, A1e]
    exact ⟨_, cap, rfl, by omega, by simp, Or.inr ⟨by simp, _, et, hnew, by rw [hlen, Nat.zero_add]; exact hfit⟩⟩
   ·intro k hk; simp [AV.ids] at hk; subst hk; simp [G6]

theorem E0m {G : Nat → Option (List T)} {st : St} {n : Nat} {a : Act} (hG : GOK E G) (h : RS E F st.sto w A φ) (r : RE ds st n a w A φ) {args : Array Operand} {ts : Array TypeId} {ty : TypeId} {so : SOp} (hs : J5 P G (.call ⟨.builtin .append, args, ts⟩) = some so) {id : Nat} {x : AV} {wr : List (Nat × Ob)}
  (hc : J9 id so (·.ev st.env) st.sto = some (x, wr)) :
  ∃ v w' φ', (Builtin.append_ ts ty (args.map a.eval)).run P w = .ok v w' ∧ Did E F st.sto A φ w x v (G6 st.sto wr) w' A φ' := by
 simp only [J5] at hs
 split at hs
 ·rename_i t u s xo ht0 ht1 ha0 ha1
  split at hs
  ·rename_i e e2 hu hu2
   split at hs
   ·rename_i i z ss xs hi hz hss hxs
    split at hs
    ·rename_i hcond
     obtain ⟨hzl, hz0, hby⟩ := hcond
     injection hs with hs; subst hs
     have evs := M9 hG h r hss
     have evx := M9 hG h r hxs
     have hw0 : (args.map a.eval)[0]? = some (a.eval s) := by simp [ha0]
     have hw1 : (args.map a.eval)[1]? = some (a.eval xo) := by simp [ha1]
     simp only [J9] at hc
     split at hc
     ·rename_i new hnew
      obtain ⟨bx, cx, vals, hxv, hv1, hv2, hv3, hv4⟩ := B84 h hnew evx.1
      rw [hxv] at hw1
      split at hc
      ·rename_i j s' off len r' hown
       have eown := AV.asOwn_eq hown
       split at hc
       ·rename_i s'' rr es hj
        split at hc
        ·rename_i hcnd
         obtain ⟨c1, c2, c3, c4, c5, c6, c7, c8, c9⟩ := hcnd
         subst c2; subst c3; subst c4; subst c5; subst c6
         simp only [Option.some.injEq, Prod.mk.injEq] at hc
         obtain ⟨rfl, rfl⟩ := hc
         have hsv := evs.1; rw [eown] at hsv
         exact D9z h hu hu2 hi hz hzl hj c1 hsv hv1 hv2 hv3 hv4 c7 hby ts _ ht0 ht1 hw0 hw1 c9
        ·simp at hc
       ·rename_i s'' es hj
        split at hc
        ·rename_i hcnd
         obtain ⟨c1, c3, c4, c5, c6, c7, c8, c9⟩ := hcnd
         subst c3; subst c4; subst c5; subst c6
         simp only [Option.some.injEq, Prod.mk.injEq] at hc
         obtain ⟨rfl, rfl⟩ := hc
         have hsv := evs.1; rw [eown] at hsv
         exact D6x h hu hu2 hi hz hzl hj c1 hsv hv1 hv2 hv3 hv4 c7 hby ts _ ht0 ht1 hw0 hw1 c9
        ·simp at hc
       ·simp at hc
      ·split at hc
       ·rename_i hcnd
        obtain ⟨c1, c2, c3, c4⟩ := hcnd
        simp only [Option.some.injEq, Prod.mk.injEq] at hc
        obtain ⟨rfl, rfl⟩ := hc
        have hnil : ss.ev st.env = .t (.v (.slice none 0 0)) := by
         unfold AV.isNil at c1
         split at c1
         ·assumption
         ·simp at c1
        have hsv := evs.1; rw [hnil] at hsv
        rw [(U3 hsv).1] at hw0
        exact D9x h hu hu2 hi hz hzl hv1 hv2 hv3 hv4 c2 hby ts _ ht0 ht1 hw0 hw1 c4
       ·simp at hc
     ·simp at hc
    ·simp at hs
   ·simp at hs
  ·simp at hs
 ·simp at hs

end
end Go.Sx

namespace Go.Sx
section
variable {P : Program} {E : Env} {F : Frm} {sto : Nat → Option Ob} {w : World} {A : Nat → Prop} {φ : Nat → Nat} {ds : List Deferred}

theorem D5k {neg : Bool} {t e : TypeId} {x y : Operand} {a : Option Addr} {n c : Nat} (hu : P.underlying t = some (.slice e)) :
  (do eqGuard (if neg then .neq else .eql) t x y (.slice a n c) (.slice none 0 0); binOp (if neg then .neq else .eql) t (.slice a n c) (.slice none 0 0) : Sem Value).run P w = .ok (.bool (a.isNone != neg)) w := by
 have h0 : ∀ d, (Op.equalIn (d + 1) t (.slice a n c) (.slice none 0 0)).run P w = .ok a.isNone w := by
  intro d
  simp only [Op.equalIn, Sem.run_bind, run_underlying hu, Result.andThen_ok]
  cases a <;> simp
 have h : (Op.equal t (.slice a n c) (.slice none 0 0)).run P w = .ok a.isNone w := h0 9999
 cases neg with
 | false =>
  have hg : (eqGuard .eql t x y (.slice a n c) (.slice none 0 0)).run P w = .ok () w := by simp [eqGuard]
  have hb : binOp .eql t (.slice a n c) (.slice none 0 0) = (do pure (.bool (← Op.equal t (.slice a n c) (.slice none 0 0))) : Sem Value) := by simp only [binOp]
  simp only [Bool.false_eq_true, if_false, Sem.run_bind, hg, Result.andThen_ok, hb, h, Sem.run_pure]
  cases a <;> rfl
 | true =>
  have hg : (eqGuard .neq t x y (.slice a n c) (.slice none 0 0)).run P w = .ok () w := by simp [eqGuard]
  have hb : binOp .neq t (.slice a n c) (.slice none 0 0) = (do pure (.bool (!(← Op.equal t (.slice a n c) (.slice none 0 0)))) : Sem Value) := by simp only [binOp]
  simp only [if_true, Sem.run_bind, hg, Result.andThen_ok, hb, h, Sem.run_pure]
  cases a <;> rfl

/-- What is known of a slice's being nil. -/
theorem D95 {id : Nat} {neg : Bool} {xs : SV} {ρ : SV → AV} {x : AV} {wr : List (Nat × Ob)} {v : Value} (hx : CA A φ w (ρ xs) v) (hc : J9 id (.isnil neg xs) ρ sto = some (x, wr)) :
  ∃ a n c, v = .slice a n c ∧ (x, wr) = (AV.t (.v (.bool (a.isNone != neg))), []) := by
 simp only [J9] at hc
 split at hc
 ·rename_i a n c hv
  rw [hv] at hx
  injection hc with hc
  exact ⟨a, n, c, (U3 hx).1, hc.symm⟩
 ·rename_i sz e es hv
  rw [hv] at hx
  simp only [CA, CT] at hx
  obtain ⟨a, cap, rfl, _, hr⟩ := hx
  injection hc with hc
  rcases hr with hr | ⟨b, o, rfl, _⟩
  ·cases hr
  ·exact ⟨_, _, _, rfl, by rw [← hc]; simp⟩
 ·rename_i i s off len r hv
  rw [hv] at hx
  simp only [CA] at hx
  obtain ⟨a, cap, rfl, hl, _, hr⟩ := hx
  split at hc
  ·rename_i h0
   injection hc with hc
   rcases hr with hr | ⟨rfl, _⟩
   ·omega
   ·exact ⟨_, _, _, rfl, by rw [← hc]; simp⟩
  ·cases hc
 ·cases hc

/-- Rows laid over a part of a row. -/
theorem C8e (h : RS E F sto w A φ) {j sz : Nat} {es new : List (List T)} (hj : sto j = some (.row sz true es)) {vals : List Value} (hv1 : H7 A φ w (new.flatten.map .t) vals) (hv2 : ∀ e ∈ new, e.length = sz) (hv3 : vals.length = new.length * sz)
  {off : Nat} (hfit : off + new.length ≤ es.length) :
  ∃ w', (storeCells ⟨φ j, off * sz, none⟩ vals).run P w = .ok () w' ∧ RS E F (upd sto j (some (.row sz true (splice es off new)))) w' A φ ∧ Goes A A w w' := by
 have hl := h.liv j _ hj rfl
 have hco := h.obj j _ hj
 simp only [CO] at hco
 obtain ⟨⟨ys, et, hheap⟩, hrows⟩ := hco.2 trivial
 have hroom : es.length * sz ≤ ys.size := by
  have hfl := hrows.flatten
  rcases Nat.eq_zero_or_pos (es.length * sz) with hz | hz
  ·omega
  ·have : es.flatten.length = es.length * sz := hfl.2
   obtain ⟨y, hy, _⟩ := hfl.1.get (i := es.length * sz - 1) (c := es.flatten[es.length * sz - 1]'(by omega)) (List.getElem?_eq_getElem _)
   rw [D9 hheap] at hy
   have := (Array.getElem?_eq_some_iff.1 hy).1; omega
 have hjs : (off + new.length) * sz ≤ es.length * sz := Nat.mul_le_mul_right _ hfit
 rw [Nat.add_mul] at hjs
 have hfit2 : off * sz + vals.length ≤ ys.size := by omega
 have v1 : ∀ v ∈ vals, v.oneCell' = true := fun v hv => by
  obtain ⟨x, hx, hc⟩ := H7.mem hv1 v hv
  obtain ⟨c, _, rfl⟩ := List.mem_map.1 hx
  simp only [CA] at hc; exact CT.oneCell hc
 have hstore := run_storeCells_at P (φ j) (off * sz) et vals 0 ys w hheap (by simpa using hfit2) v1
 have hsp : (ys.toList.take (off * sz + 0) ++ vals ++ ys.toList.drop (off * sz + 0 + vals.length)) = splice ys.toList (off * sz) vals := by simp [splice]
 rw [hsp] at hstore
 have hlen : (splice ys.toList (off * sz) vals).toArray.size = ys.size := by
  simp only [List.size_toArray]; rw [A0y (by simpa using hfit2)]; simp
 have hg : Goes A A w (w.setRow (φ j) (splice ys.toList (off * sz) vals).toArray) := A1l hheap hlen hl.1
 have hnew := setRow_heap w (φ j) ys (splice ys.toList (off * sz) vals).toArray et (0, 0) hheap
 have hlo : ∀ k, k < off * sz → (w.setRow (φ j) (splice ys.toList (off * sz) vals).toArray).cell? ⟨φ j, k, none⟩ = w.cell? ⟨φ j, k, none⟩ := fun k hk => by
  rw [D9 hnew, D9 hheap, List.getElem?_toArray, A22 (by simpa using hfit2) hk]; simp
 have hhi : ∀ k, off * sz + vals.length ≤ k → (w.setRow (φ j) (splice ys.toList (off * sz) vals).toArray).cell? ⟨φ j, k, none⟩ = w.cell? ⟨φ j, k, none⟩ := fun k hk => by
  rw [D9 hnew, D9 hheap, List.getElem?_toArray, A6d (by simpa using hfit2) hk]; simp
 have hmid : ∀ q u, vals[q]? = some u → (w.setRow (φ j) (splice ys.toList (off * sz) vals).toArray).cell? ⟨φ j, off * sz + q, none⟩ = some u := fun q u hu => by
  have hq := (List.getElem?_eq_some_iff.1 hu).1
  rw [D9 hnew, List.getElem?_toArray, A1i (by simpa using hfit2) (by omega) (by omega), Nat.add_sub_cancel_left]; exact hu
 have hrow : E5 A (w.setRow (φ j) (splice ys.toList (off * sz) vals).toArray) sz (φ j) 0 (splice es off new) := by
  have l1 : (es.take off).length = off := by simp; omega
  have hsplit : es = es.take off ++ ((es.drop off).take new.length ++ es.drop (off + new.length)) := by
   rw [← List.drop_drop, List.take_append_drop, List.take_append_drop]
  have l2 : ((es.drop off).take new.length).length = new.length := by simp; omega
  rw [hsplit, E5.append, E5.append, l1, l2, Nat.zero_add] at hrows
  have hs : splice es off new = es.take off ++ (new ++ es.drop (off + new.length)) := by simp [splice]
  rw [hs, E5.append, E5.append, l1, Nat.zero_add]
  refine ⟨E5.congr hg.keeps (fun k hk => ?_) hrows.1, E5.of hv2 (D0.of hg hv1 fun q u hu => hmid q u hu), E5.congr hg.keeps (fun k hk => ?_) hrows.2.2⟩
  ·rw [l1] at hk; rw [Nat.zero_add]; exact hlo k hk
  ·exact hhi _ (by omega)
 exact ⟨_, hstore, h.write (ob := .row sz true (splice es off new)) hj rfl hheap hlen (fun k hk => by simp [Ob.ids] at hk) (by simp only [CO]; exact ⟨by simp, fun _ => ⟨⟨_, et, hnew⟩, hrow⟩⟩), hg⟩

theorem D3r {α : Type} (l : List α) (k : Nat) : splice l k [] = l := by simp [splice]

theorem D27 (h : RS E F sto w A φ) {j sz : Nat} {es : List (List T)} (hj : sto j = some (.row sz true es)) (off : Nat) : RS E F (upd sto j (some (.row sz true (splice es off [])))) w A φ := by
 have e : upd sto j (some (.row sz true (splice es off []))) = sto := by
  funext k; unfold upd; split
  ·rename_i hk; subst hk; rw [D3r, hj]
  ·rfl
 rw [e]; exact h

theorem C80 {sz : Nat} : ∀ {new : List (List T)} {n : Nat}, (∀ e ∈ new, e.length = sz) → (new.take n).flatten = new.flatten.take (n * sz)
 | [], n, _ => by simp
 | e :: new, 0, _ => by simp
 | e :: new, n + 1, h => by
  have h1 := h e (by simp)
  simp only [List.take_succ_cons, List.flatten_cons]
  rw [C80 (fun x hx => h x (by simp [hx])), List.take_append, h1, Nat.add_mul, Nat.one_mul]
  rw [List.take_of_length_le (l := e) (by omega)]
  congr 2
  omega

theorem C0f {j sz off len : Nat} {r : Bool} {v : Value} (h : CA A φ w (.own j sz off len r) v) : ∃ a cap, v = .slice a len cap ∧ (len = 0 ∨ a = some ⟨φ j, off * sz, none⟩) := by
 simp only [CA] at h
 obtain ⟨a, cap, rfl, hl, _, hr⟩ := h
 refine ⟨a, cap, rfl, ?_⟩
 rcases hr with hr | hr
 ·left; omega
 ·exact Or.inr hr.1

theorem D96 {G : Nat → Option (List T)} {st : St} {n : Nat} {a : Act} (hG : GOK E G) (h : RS E F st.sto w A φ) (r : RE ds st n a w A φ) {args : Array Operand} {ts : Array TypeId} {ty : TypeId} {so : SOp} (hs : J5 P G (.call ⟨.builtin .copy, args, ts⟩) = some so) {id : Nat} {x : AV} {wr : List (Nat × Ob)}
  (hc : J9 id so (·.ev st.env) st.sto = some (x, wr)) :
  ∃ v w', (Builtin.copy_ ts ty (args.map a.eval)).run P w = .ok v w' ∧ Did E F st.sto A φ w x v (G6 st.sto wr) w' A φ := by
 simp only [J5] at hs
 split at hs
 ·rename_i t d s ht0 ha0 ha1
  split at hs
  ·rename_i e hu
   split at hs
   ·rename_i m ds ss hm hds hss
    injection hs with hs; subst hs
    have evd := M9 hG h r hds
    have evs := M9 hG h r hss
    have hw0 : (args.map a.eval)[0]? = some (a.eval d) := by simp [ha0]
    have hw1 : (args.map a.eval)[1]? = some (a.eval s) := by simp [ha1]
    simp only [J9] at hc
    split at hc
    ·rename_i new j s' off len rr hnew hown
     have eown := AV.asOwn_eq hown
     obtain ⟨bx, cx, vals, hxv, hv1, hv2, hv3, hv4⟩ := B84 h hnew evs.1
     split at hc
     ·rename_i s'' es hj
      split at hc
      ·rename_i hcnd
       obtain ⟨rfl, rfl, hfit⟩ := hcnd
       simp only [Option.some.injEq, Prod.mk.injEq] at hc
       obtain ⟨rfl, rfl⟩ := hc
       have hd := evd.1; rw [eown] at hd
       obtain ⟨ad, cap, hdv, hlen⟩ := C0f hd
       have hmin : (new.take len).length = min new.length len := by simp [Nat.min_comm]
       have hfl : (new.take len).flatten = new.flatten.take (min new.length len * s'') := by
        rw [C80 hv2]
        rcases Nat.le_total new.length len with hle | hle
        ·rw [Nat.min_eq_left hle, List.take_of_length_le (by rw [A0p hv2]; exact Nat.mul_le_mul_right _ hle), List.take_of_length_le (by rw [A0p hv2]; exact Nat.le_refl _)]
        ·rw [Nat.min_eq_right hle]
       have hcas : H7 A φ w ((new.take len).flatten.map .t) (vals.take (min new.length len * s'')) := by
        rw [hfl, List.map_take]; exact hv1.take _
       have hvl : (vals.take (min new.length len * s'')).length = (new.take len).length * s'' := by
        rw [hmin, List.length_take, hv3]
        exact Nat.min_eq_left (Nat.mul_le_mul_right _ (Nat.min_le_left _ _))
       have hvl2 : (vals.take (min new.length len * s'')).length = min new.length len * s'' := by rw [hvl, hmin]
       have hfirst : (Builtin.firstCells s'' (min new.length len) (.slice bx new.length cx)).run P w = .ok (vals.take (min new.length len * s'')).toArray w := by
        have := A4g (P := P) (w := w) (sz := s'') (n := min new.length len) (ba := bx) (len := new.length) (cap := cx) (vals := vals.take (min new.length len * s'')) hvl2 (by
         rcases hv4 with ho4 | ⟨b, o, hb, hcc⟩
         ·left; rw [ho4]; simp
         ·right; refine ⟨b, o, hb, fun k v hv => ?_⟩
          rw [List.getElem?_take] at hv
          split at hv
          ·exact hcc k v hv
          ·cases hv)
        exact this
       have hrun : ∀ w', (match ad with | some q => (storeCells q (vals.take (min new.length len * s''))).run P w | none => .ok () w) = .ok () w' →
         (Builtin.copy_ ts ty (args.map a.eval)).run P w = .ok (.int .i64 ((min new.length len : Nat) : Int)) w' := by
        intro w' hst
        simp only [Builtin.copy_, ht0, hw0, hw1, hdv, hxv, Sem.run_bind, run_underlying hu, Result.andThen_ok, Builtin.lenOf, Sem.run_pure, O1 hm]
        have e1 : Nat.min new.length len = min new.length len := rfl
        simp only [e1, hfirst, Result.andThen_ok]
        cases ad with
        | none => simp only at hst; injection hst with h1 h2; subst h2; simp [goInt]
        | some q => simp only at hst; simp [hst, goInt]
       by_cases h0 : (new.take len) = []
       ·have hv0 : vals.take (min new.length len * s'') = [] := List.eq_nil_of_length_eq_zero (by rw [hvl, h0]; simp)
        refine ⟨_, w, hrun w (by rw [hv0]; cases ad <;> simp [storeCells]), ?_⟩
        have hrs := D27 h hj off
        rw [← h0] at hrs
        exact ⟨hrs, Goes.refl A w, fun _ _ => rfl, fun k hk => J4 hk, B45 rfl, by simp [AV.ids]⟩
       ·have hpos : len ≠ 0 := fun e0 => h0 (by rw [e0]; simp)
        rcases hlen with hlen | hlen
        ·exact absurd hlen hpos
        ·obtain ⟨w', g1, g2, g3⟩ := C8e (P := P) h hj hcas (fun e he => hv2 e (List.mem_of_mem_take he)) hvl (off := off) (by rw [hmin]; omega)
         refine ⟨_, w', hrun w' (by rw [hlen]; exact g1), g2, g3, fun _ _ => rfl, fun k hk => J4 hk, B45 rfl, by simp [AV.ids]⟩
      ·simp at hc
     ·simp at hc
    ·simp at hc
   ·simp at hs
  ·simp at hs
 ·simp at hs

theorem D9o {G : Nat → Option (List T)} {st : St} {n : Nat} {a : Act} (hG : GOK E G) (h : RS E F st.sto w A φ) (r : RE ds st n a w A φ) {args : Array Operand} {ts : Array TypeId} {ty : TypeId} {so : SOp} (hs : J5 P G (.call ⟨.builtin .clear, args, ts⟩) = some so) {id : Nat} {x : AV} {wr : List (Nat × Ob)}
  (hc : J9 id so (·.ev st.env) st.sto = some (x, wr)) :
  ∃ v w', (Builtin.clear_ ts ty (args.map a.eval)).run P w = .ok v w' ∧ Did E F st.sto A φ w x v (G6 st.sto wr) w' A φ := by
 simp only [J5] at hs
 split at hs
 ·rename_i t d ht0 ha0
  split at hs
  ·rename_i e hu
   split at hs
   ·rename_i i z ds hi hz hds
    split at hs
    ·rename_i hzz
     injection hs with hs; subst hs
     obtain ⟨hzl, hz0⟩ := hzz
     have evd := M9 hG h r hds
     have hw0 : (args.map a.eval)[0]? = some (a.eval d) := by simp [ha0]
     obtain ⟨zv, z1, z2, z3, z4⟩ := A6f hz
     have hzc : zv.cells.size = i.size := by rw [← hzl, z4]; simp
     simp only [J9] at hc
     split at hc
     ·rename_i j s' off len rr hown
      have eown := AV.asOwn_eq hown
      split at hc
      ·rename_i s'' es hj
       split at hc
       ·rename_i hcnd
        obtain ⟨rfl, hss, hfit⟩ := hcnd
        subst hss
        simp only [Option.some.injEq, Prod.mk.injEq] at hc
        obtain ⟨rfl, rfl⟩ := hc
        have hd := evd.1; rw [eown] at hd
        obtain ⟨ad, cap, hdv, hlen⟩ := C0f hd
        have hca : CA A φ w (.tp []) (.tuple #[]) := by simp only [CA]; exact ⟨#[], rfl, by simp [H7]⟩
        by_cases h0 : len = 0
        ·subst h0
         refine ⟨.tuple #[], w, ?_, D27 h hj off, Goes.refl A w, fun _ _ => rfl, fun k hk => J4 hk, hca, by simp [AV.ids, B5]⟩
         simp only [Builtin.clear_, ht0, hw0, hdv, Sem.run_bind, run_underlying hu, Result.andThen_ok]
         cases ad <;> simp
        ·rcases hlen with hlen | hlen
         ·exact absurd hlen h0
         ·have hzr : ∀ len, (Builtin.zeroCells zv.cells len).toList = (List.replicate len zv.cells.toList).flatten := by
           intro len
           unfold Builtin.zeroCells
           rw [← B91 (by simp; omega), C3y]
           simp
          have hcas : ∀ len, H7 A φ w ((List.replicate len z).flatten.map .t) (List.replicate len zv.cells.toList).flatten := by
           intro len
           induction len with
           | zero => simp [H7]
           | succ len ih => simp only [List.replicate_succ, List.flatten_cons, List.map_append]; exact (z2 A φ w).append ih
          have hvl : (List.replicate len zv.cells.toList).flatten.length = (List.replicate len z).length * i.size := by
           rw [A0p (n := i.size) (fun e he => by rw [(List.mem_replicate.1 he).2]; simpa using hzc)]; simp
          obtain ⟨w', g1, g2, g3⟩ := C8e (P := P) h hj (hcas len) (fun e he => by rw [(List.mem_replicate.1 he).2]; exact hzl) hvl (off := off) (by simpa using hfit)
          refine ⟨.tuple #[], w', ?_, g2, g3, fun _ _ => rfl, fun k hk => J4 hk, ?_, by simp [AV.ids, B5]⟩
          ·obtain ⟨len', rfl⟩ := Nat.exists_eq_succ_of_ne_zero h0
           simp only [Builtin.clear_, ht0, hw0, hdv, hlen, Sem.run_bind, run_underlying hu, Result.andThen_ok, z1, hzr, g1, Sem.run_pure]
          ·simp only [CA]; exact ⟨#[], rfl, by simp [H7]⟩
       ·simp at hc
      ·simp at hc
     ·simp at hc
    ·simp at hs
   ·simp at hs
  ·simp at hs
 ·simp at hs

end
end Go.Sx
