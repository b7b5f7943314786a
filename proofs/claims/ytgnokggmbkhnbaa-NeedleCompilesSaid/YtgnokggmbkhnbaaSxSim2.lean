/- Stores, new variables, built values. No statement of a seat is proved here. -/
import Derived.Test.YtgnokggmbkhnbaaSxSim1
set_option linter.unusedSimpArgs false
set_option linter.unusedVariables false
namespace Go.Sx
section
variable {P : Program} {E : Env} {F : Frm} {sto : Nat → Option Ob} {w : World} {A : Nat → Prop} {φ : Nat → Nat}

theorem CCells.congr {w' : World} (hk : Keeps A A w w') {b : Nat} : ∀ {cs : List T} {o : Nat}, (∀ k, k < cs.length → w'.cell? ⟨b, o + k, none⟩ = w.cell? ⟨b, o + k, none⟩) → CCells A w b o cs → CCells A w' b o cs
  | [], _, _, _ => by simp only [CCells]
  | c :: cs, o, h, hx => by
    simp only [CCells] at hx ⊢
    obtain ⟨⟨y, hy, hc⟩, hr⟩ := hx
    have h0 := h 0 (by simp)
    simp only [Nat.add_zero] at h0
    refine ⟨⟨y, by rw [h0]; exact hy, CT.keeps hk c y hc⟩, CCells.congr hk (fun k hk' => ?_) hr⟩
    have := h (k + 1) (by simp; omega)
    rwa [show o + (k + 1) = o + 1 + k from by omega] at this

theorem CRows.congr {w' : World} (hk : Keeps A A w w') {sz b : Nat} : ∀ {es : List (List T)} {o : Nat}, (∀ k, k < es.length * sz → w'.cell? ⟨b, o + k, none⟩ = w.cell? ⟨b, o + k, none⟩) → CRows A w sz b o es → CRows A w' sz b o es
  | [], _, _, _ => by simp only [CRows]
  | e :: es, o, h, hx => by
    simp only [CRows] at hx ⊢
    refine ⟨⟨hx.1.1, CCells.congr hk (fun k hk' => h k ?_) hx.1.2⟩, CRows.congr hk (fun k hk' => ?_) hx.2⟩
    · rw [hx.1.1] at hk'; simp only [List.length_cons, Nat.add_mul]; omega
    · have := h (sz + k) (by simp only [List.length_cons, Nat.add_mul]; omega)
      rwa [show o + (sz + k) = o + sz + k from by omega] at this

theorem trees_eq : ∀ {xs : List AV} {ts : List T}, trees xs = some ts → xs = ts.map .t
  | [], ts, h => by simp [trees] at h; subst h; rfl
  | x :: xs, ts, h => by
    simp only [trees] at h
    split at h
    · rename_i a as h1 h2
      injection h with h; subst h
      have := trees_eq h2
      cases x <;> simp [AV.tree] at h1
      subst h1; simp [this]
    · simp at h

theorem splice_length {α : Type} {l vs : List α} {k : Nat} (h : k + vs.length ≤ l.length) : (splice l k vs).length = l.length := by
  unfold splice; simp; omega

theorem splice_get_lo {α : Type} {l vs : List α} {k i : Nat} (h : k + vs.length ≤ l.length) (hi : i < k) : (splice l k vs)[i]? = l[i]? := by
  unfold splice
  rw [List.append_assoc, List.getElem?_append_left (by simp; omega), List.getElem?_take_of_lt hi]

theorem splice_get_hi {α : Type} {l vs : List α} {k i : Nat} (h : k + vs.length ≤ l.length) (hi : k + vs.length ≤ i) : (splice l k vs)[i]? = l[i]? := by
  unfold splice
  rw [List.getElem?_append_right (by simp; omega), List.getElem?_drop]
  congr 1; simp; omega

theorem splice_get_mid {α : Type} {l vs : List α} {k i : Nat} (h : k + vs.length ≤ l.length) (h1 : k ≤ i) (h2 : i < k + vs.length) : (splice l k vs)[i]? = vs[i - k]? := by
  unfold splice
  rw [List.append_assoc, List.getElem?_append_right (by simp; omega), List.getElem?_append_left (by simp; omega)]
  congr 1; simp; omega

/-- Cells out of values that stand for trees. -/
theorem CCells.of {b : Nat} {w' : World} (hg : Goes A A w w') : ∀ {ts : List T} {ys : List Value} {o : Nat}, CAs A φ w (ts.map .t) ys → (∀ j v, ys[j]? = some v → w'.cell? ⟨b, o + j, none⟩ = some v) → CCells A w' b o ts
  | [], _, _, _, _ => by simp only [CCells]
  | t :: ts, ys, o, h, hc => by
    simp only [List.map_cons, CAs] at h
    obtain ⟨z, zs, rfl, h1, h2⟩ := h
    simp only [CCells]
    refine ⟨⟨z, by simpa using hc 0 z rfl, CT.keeps hg.keeps t z (by simpa only [CA] using h1)⟩, CCells.of hg h2 fun j v hv => ?_⟩
    have := hc (j + 1) v (by simpa using hv)
    rwa [show o + (j + 1) = o + 1 + j from by omega] at this

theorem CCells.splice {b : Nat} {w' : World} (hg : Goes A A w w') {e ts : List T} {ys : List Value} {o off : Nat} (he : CCells A w b o e) (hts : CAs A φ w (ts.map .t) ys) (hl : off + ts.length ≤ e.length)
    (h1 : ∀ j v, ys[j]? = some v → w'.cell? ⟨b, o + off + j, none⟩ = some v) (h2 : ∀ k, k < e.length → (k < off ∨ off + ts.length ≤ k) → w'.cell? ⟨b, o + k, none⟩ = w.cell? ⟨b, o + k, none⟩) :
    CCells A w' b o (splice e off ts) := by
  have e1 : e = e.take off ++ ((e.drop off).take ts.length ++ e.drop (off + ts.length)) := by
    rw [← List.drop_drop, List.take_append_drop, List.take_append_drop]
  have l1 : (e.take off).length = off := by simp; omega
  have l2 : ((e.drop off).take ts.length).length = ts.length := by simp; omega
  rw [e1, CCells.append, CCells.append, l1, l2] at he
  unfold Sx.splice
  rw [CCells.append, CCells.append]
  simp only [List.length_append, l1]
  refine ⟨⟨CCells.congr hg.keeps (fun k hk => h2 k (by rw [l1] at hk; omega) (Or.inl (by rw [l1] at hk; exact hk))) he.1, CCells.of hg hts h1⟩, ?_⟩
  have := CCells.congr (w' := w') hg.keeps (fun k hk => ?_) he.2.2
  · rwa [show o + off + ts.length = o + (off + ts.length) from by omega] at this
  · have := h2 (off + ts.length + k) (by simp at hk; omega) (Or.inr (by omega))
    rwa [show o + (off + ts.length + k) = o + off + ts.length + k from by omega] at this

theorem run_store_at {t : TypeId} {n : Nat} (hs : sizeT P t = some n) {b off : Nat} {ys : Array Value} {e : TypeId} (hb : w.heap[b]? = some (.cells ys e (0, 0))) {v : Value} (hn : v.cells.size = n) (hl : off + n ≤ ys.size)
    (h1 : ∀ u ∈ v.cells.toList, u.oneCell' = true) :
    (Instr.storeAt t (.pointer (some ⟨b, off, none⟩)) v).run P w = .ok () (w.setRow b (splice ys.toList off v.cells.toList).toArray) := by
  have hst := run_storeCells_at P b off e v.cells.toList 0 ys w hb (by simp [hn]; omega) h1
  simp only [Instr.storeAt, Instr.sureAddr, Sem.run_bind, Sem.run_pure, Result.andThen_ok, storeVar, run_sizeOf hs, hn, ne_eq, not_true, if_false, hst]
  simp [splice, hn]

theorem sim_store (h : RS E F sto w A φ) {t : TypeId} {n id : Nat} (hs : sizeT P t = some n) {px vx : SV} {ρ : SV → AV} {pv v : Value} (hp : CA A φ w (ρ px) pv) (hv : CA A φ w (ρ vx) v)
    (hvi : ∀ i ∈ (ρ vx).ids, (sto i).isSome = true)
    {x : AV} {wr : List (Nat × Ob)} (hc : core id (.store n px vx) ρ sto = some (x, wr)) :
    ∃ w', (Instr.storeAt t pv v).run P w = .ok () w' ∧ Did E F sto A φ w x undef (applyWr sto wr) w' A φ := by
  simp only [core] at hc
  cases hpx : ρ px with
  | ptr i off =>
    simp only [hpx] at hc
    cases ho : sto i with
    | none => simp [ho] at hc
    | some o =>
      cases o with
      | box cs =>
        simp only [ho] at hc
        split at hc
        · rename_i hcond
          obtain ⟨hn, hl, h1⟩ := hcond
          simp only [Option.some.injEq, Prod.mk.injEq] at hc
          obtain ⟨rfl, rfl⟩ := hc
          have hob := h.obj i _ ho
          simp only [CO] at hob
          obtain ⟨ys, e, g1, g2, g3⟩ := hob
          obtain ⟨c1, c2⟩ := cells_ok h1 hv
          have hvn : v.cells.size = n := by rw [← hn, ← c1.length]; simp
          have hyl := g2.length
          simp only [Array.length_toList] at hyl
          simp only [hpx, CA] at hp; subst hp
          have hlen : (splice ys.toList off v.cells.toList).toArray.size = ys.size := by
            simp only [List.size_toArray]; rw [splice_length (by simp [hvn]; omega)]; simp
          have hg : Goes A A w (w.setRow (φ i) (splice ys.toList off v.cells.toList).toArray) := goes_setRow g1 hlen (h.liv i _ ho rfl).1
          refine ⟨_, run_store_at hs g1 hvn (by omega) c2, ?_, hg, fun _ _ => rfl, fun k hk => applyWr_mono hk, by simp only [CA], by simp [AV.ids]⟩
          refine h.write ho rfl g1 hlen (fun j hj => ?_) ?_
          · rcases idsL_splice (by simpa only [Ob.ids] using hj) with hj | hj
            · exact h.nod i _ ho j hj
            · rw [ids_cells] at hj; exact hvi j hj
          · simp only [CO]
            refine ⟨_, e, setRow_heap w (φ i) ys _ e (0, 0) g1, ?_, fun y hy => ?_⟩
            · exact CAs.goes hg _ _ (fun _ _ => rfl) (g2.splice c1 off)
            · simp only [splice, List.mem_append] at hy
              rcases hy with (hy | hy) | hy
              · exact g3 y (List.mem_of_mem_take hy)
              · exact c2 y hy
              · exact g3 y (List.mem_of_mem_drop hy)
        · simp at hc
      | _ => simp [ho] at hc
  | ept i s j off =>
    simp only [hpx] at hc
    cases ho : sto i with
    | none => simp [ho] at hc
    | some o =>
      cases o with
      | row rsz r es =>
        cases r with
        | false => simp [ho] at hc
        | true =>
          simp only [ho] at hc
          cases he : es[j]? with
          | none => simp [he] at hc
          | some ee =>
            cases ht : trees (ρ vx).cells with
            | none => simp [he, ht] at hc
            | some ts =>
              simp only [he, ht] at hc
              split at hc
              · rename_i hcond
                obtain ⟨rfl, hn, hl⟩ := hcond
                simp only [Option.some.injEq, Prod.mk.injEq] at hc
                obtain ⟨rfl, rfl⟩ := hc
                have hob := h.obj i _ ho
                simp only [CO] at hob
                obtain ⟨⟨ys, e, g1⟩, g2⟩ := hob.2 trivial
                have hcells := trees_eq ht
                have h1 : (ρ vx).cells.all AV.one = true := by rw [hcells]; simp [AV.one]
                obtain ⟨c1, c2⟩ := cells_ok h1 hv
                rw [hcells] at c1
                have hvn : v.cells.size = n := by rw [← hn]; have := c1.length; simpa using this
                obtain ⟨re1, re2⟩ := g2.get he
                rw [Nat.zero_add] at re2
                have hjl : j < es.length := by
                  rcases Nat.lt_or_ge j es.length with hj | hj
                  · exact hj
                  · simp [List.getElem?_eq_none hj] at he
                -- the block has room for the whole row
                have hroom : es.length * rsz ≤ ys.size := by
                  have hfl := g2.flatten
                  rcases Nat.eq_zero_or_pos (es.length * rsz) with hz | hz
                  · omega
                  · have : es.flatten.length = es.length * rsz := hfl.2
                    obtain ⟨y, hy, _⟩ := hfl.1.get (i := es.length * rsz - 1) (c := es.flatten[es.length * rsz - 1]'(by omega)) (List.getElem?_eq_getElem _)
                    rw [cell_of_heap_get g1] at hy
                    have := (Array.getElem?_eq_some_iff.1 hy).1; omega
                have hjs : (j + 1) * rsz ≤ es.length * rsz := Nat.mul_le_mul_right _ hjl
                rw [Nat.add_mul, Nat.one_mul] at hjs
                simp only [hpx, CA] at hp; subst hp
                have hfit : j * rsz + off + n ≤ ys.size := by omega
                have hlen : (splice ys.toList (j * rsz + off) v.cells.toList).toArray.size = ys.size := by
                  simp only [List.size_toArray]; rw [splice_length (by simp [hvn]; omega)]; simp
                have hg : Goes A A w (w.setRow (φ i) (splice ys.toList (j * rsz + off) v.cells.toList).toArray) := goes_setRow g1 hlen (h.liv i _ ho rfl).1
                have hnew := setRow_heap w (φ i) ys (splice ys.toList (j * rsz + off) v.cells.toList).toArray e (0, 0) g1
                have hlo : ∀ k, k < j * rsz + off → (w.setRow (φ i) (splice ys.toList (j * rsz + off) v.cells.toList).toArray).cell? ⟨φ i, k, none⟩ = w.cell? ⟨φ i, k, none⟩ := fun k hk => by
                  rw [cell_of_heap_get hnew, cell_of_heap_get g1, List.getElem?_toArray, splice_get_lo (by simp [hvn]; omega) hk]; simp
                have hhi : ∀ k, j * rsz + off + n ≤ k → (w.setRow (φ i) (splice ys.toList (j * rsz + off) v.cells.toList).toArray).cell? ⟨φ i, k, none⟩ = w.cell? ⟨φ i, k, none⟩ := fun k hk => by
                  rw [cell_of_heap_get hnew, cell_of_heap_get g1, List.getElem?_toArray, splice_get_hi (by simp [hvn]; omega) (by simp [hvn]; omega)]; simp
                have hmid : ∀ q u, v.cells.toList[q]? = some u → (w.setRow (φ i) (splice ys.toList (j * rsz + off) v.cells.toList).toArray).cell? ⟨φ i, j * rsz + off + q, none⟩ = some u := fun q u hu => by
                  have hq : q < n := by rw [← hvn]; have := (List.getElem?_eq_some_iff.1 hu).1; simpa using this
                  rw [cell_of_heap_get hnew, List.getElem?_toArray, splice_get_mid (by simp [hvn]; omega) (by omega) (by simp [hvn]; omega)]
                  rw [show j * rsz + off + q - (j * rsz + off) = q from by omega]; exact hu
                refine ⟨_, run_store_at hs g1 hvn hfit c2, ?_, hg, fun _ _ => rfl, fun k hk => applyWr_mono hk, by simp only [CA], by simp [AV.ids]⟩
                refine h.write ho rfl g1 hlen (fun j hj => by simp [Ob.ids] at hj) ?_
                simp only [CO]
                refine ⟨fun hf => by simp at hf, fun _ => ⟨⟨_, e, hnew⟩, ?_⟩⟩
                have hsplit : es = es.take j ++ ee :: es.drop (j + 1) := by
                  have := List.getElem?_eq_some_iff.1 he
                  obtain ⟨hj', hee⟩ := this
                  rw [← hee, ← List.drop_eq_getElem_cons hj', List.take_append_drop]
                have hset : es.set j (splice ee off ts) = es.take j ++ splice ee off ts :: es.drop (j + 1) := by
                  rw [List.set_eq_take_append_cons_drop, if_pos hjl]
                have l1 : (es.take j).length = j := by simp; omega
                rw [hset, CRows.append, l1, Nat.zero_add]
                rw [hsplit, CRows.append, l1, Nat.zero_add] at g2
                simp only [CRows] at g2 ⊢
                refine ⟨CRows.congr hg.keeps (fun k hk => ?_) g2.1, ⟨by rw [splice_length (by rw [hn]; exact hl)]; exact g2.2.1.1, ?_⟩, CRows.congr hg.keeps (fun k hk => ?_) g2.2.2⟩
                · rw [l1] at hk; exact hlo _ (by omega)
                · refine CCells.splice hg g2.2.1.2 c1 (by rw [hn]; exact hl) hmid fun k hk hk2 => ?_
                  rcases hk2 with hk2 | hk2
                  · exact hlo _ (by omega)
                  · exact hhi _ (by rw [hn] at hk2; omega)
                · exact hhi _ (by omega)
              · simp at hc
      | _ => simp [ho] at hc
  | _ => simp [hpx] at hc

end
end Go.Sx
