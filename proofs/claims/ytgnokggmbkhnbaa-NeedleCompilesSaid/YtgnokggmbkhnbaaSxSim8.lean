/- Nil, copy, clear. No statement of a seat is proved here. -/
import Derived.Test.YtgnokggmbkhnbaaSxSim7
set_option linter.unusedSimpArgs false
set_option linter.unusedVariables false
namespace Go.Sx
section
variable {P : Program} {E : Env} {F : Frm} {sto : Nat → Option Ob} {w : World} {A : Nat → Prop} {φ : Nat → Nat}

theorem run_isnil {neg : Bool} {t e : TypeId} {x y : Operand} {a : Option Addr} {n c : Nat} (hu : P.underlying t = some (.slice e)) :
    (do eqGuard (if neg then .neq else .eql) t x y (.slice a n c) (.slice none 0 0); binOp (if neg then .neq else .eql) t (.slice a n c) (.slice none 0 0) : Sem Value).run P w = .ok (.bool (a.isNone != neg)) w := by
  have h0 : ∀ d, (Op.equalIn (d + 1) t (.slice a n c) (.slice none 0 0)).run P w = .ok a.isNone w := by
    intro d
    simp only [Op.equalIn, Sem.run_bind, run_underlying hu, Result.andThen_ok]
    cases a <;> simp
  have h : (Op.equal t (.slice a n c) (.slice none 0 0)).run P w = .ok a.isNone w := h0 9999
  cases neg with
  | false =>
    have hg : (eqGuard .eql t x y (.slice a n c) (.slice none 0 0)).run P w = .ok () w := by simp [eqGuard]
    have hb : binOp .eql t (.slice a n c) (.slice none 0 0) = (do pure (.bool (← Op.equal t (.slice a n c) (.slice none 0 0))) : Sem Value) := by simp only [binOp]
    simp only [Bool.false_eq_true, if_false, Sem.run_bind, hg, Result.andThen_ok, hb, h, Sem.run_pure]
    cases a <;> rfl
  | true =>
    have hg : (eqGuard .neq t x y (.slice a n c) (.slice none 0 0)).run P w = .ok () w := by simp [eqGuard]
    have hb : binOp .neq t (.slice a n c) (.slice none 0 0) = (do pure (.bool (!(← Op.equal t (.slice a n c) (.slice none 0 0)))) : Sem Value) := by simp only [binOp]
    simp only [if_true, Sem.run_bind, hg, Result.andThen_ok, hb, h, Sem.run_pure]
    cases a <;> rfl

/-- What is known of a slice's being nil. -/
theorem isnil_ok {id : Nat} {neg : Bool} {xs : SV} {ρ : SV → AV} {x : AV} {wr : List (Nat × Ob)} {v : Value} (hx : CA A φ w (ρ xs) v) (hc : core id (.isnil neg xs) ρ sto = some (x, wr)) :
    ∃ a n c, v = .slice a n c ∧ (x, wr) = (AV.t (.v (.bool (a.isNone != neg))), []) := by
  simp only [core] at hc
  split at hc
  · rename_i a n c hv
    rw [hv] at hx
    injection hc with hc
    exact ⟨a, n, c, (ca_v hx).1, hc.symm⟩
  · rename_i sz e es hv
    rw [hv] at hx
    simp only [CA, CT] at hx
    obtain ⟨a, cap, rfl, _, hr⟩ := hx
    injection hc with hc
    rcases hr with hr | ⟨b, o, rfl, _⟩
    · cases hr
    · exact ⟨_, _, _, rfl, by rw [← hc]; simp⟩
  · rename_i i s off len r hv
    rw [hv] at hx
    simp only [CA] at hx
    obtain ⟨a, cap, rfl, hl, _, hr⟩ := hx
    split at hc
    · rename_i h0
      injection hc with hc
      rcases hr with hr | ⟨rfl, _⟩
      · omega
      · exact ⟨_, _, _, rfl, by rw [← hc]; simp⟩
    · cases hc
  · cases hc

/-- Rows laid over a part of a row. -/
theorem row_write (h : RS E F sto w A φ) {j sz : Nat} {es new : List (List T)} (hj : sto j = some (.row sz true es)) {vals : List Value} (hv1 : CAs A φ w (new.flatten.map .t) vals) (hv2 : ∀ e ∈ new, e.length = sz) (hv3 : vals.length = new.length * sz)
    {off : Nat} (hfit : off + new.length ≤ es.length) :
    ∃ w', (storeCells ⟨φ j, off * sz, none⟩ vals).run P w = .ok () w' ∧ RS E F (upd sto j (some (.row sz true (splice es off new)))) w' A φ ∧ Goes A A w w' := by
  have hl := h.liv j _ hj rfl
  have hco := h.obj j _ hj
  simp only [CO] at hco
  obtain ⟨⟨ys, et, hheap⟩, hrows⟩ := hco.2 trivial
  have hroom : es.length * sz ≤ ys.size := by
    have hfl := hrows.flatten
    rcases Nat.eq_zero_or_pos (es.length * sz) with hz | hz
    · omega
    · have : es.flatten.length = es.length * sz := hfl.2
      obtain ⟨y, hy, _⟩ := hfl.1.get (i := es.length * sz - 1) (c := es.flatten[es.length * sz - 1]'(by omega)) (List.getElem?_eq_getElem _)
      rw [cell_of_heap_get hheap] at hy
      have := (Array.getElem?_eq_some_iff.1 hy).1; omega
  have hjs : (off + new.length) * sz ≤ es.length * sz := Nat.mul_le_mul_right _ hfit
  rw [Nat.add_mul] at hjs
  have hfit2 : off * sz + vals.length ≤ ys.size := by omega
  have v1 : ∀ v ∈ vals, v.oneCell' = true := fun v hv => by
    obtain ⟨x, hx, hc⟩ := CAs.mem hv1 v hv
    obtain ⟨c, _, rfl⟩ := List.mem_map.1 hx
    simp only [CA] at hc; exact CT.oneCell hc
  have hstore := run_storeCells_at P (φ j) (off * sz) et vals 0 ys w hheap (by simpa using hfit2) v1
  have hsp : (ys.toList.take (off * sz + 0) ++ vals ++ ys.toList.drop (off * sz + 0 + vals.length)) = splice ys.toList (off * sz) vals := by simp [splice]
  rw [hsp] at hstore
  have hlen : (splice ys.toList (off * sz) vals).toArray.size = ys.size := by
    simp only [List.size_toArray]; rw [splice_length (by simpa using hfit2)]; simp
  have hg : Goes A A w (w.setRow (φ j) (splice ys.toList (off * sz) vals).toArray) := goes_setRow hheap hlen hl.1
  have hnew := setRow_heap w (φ j) ys (splice ys.toList (off * sz) vals).toArray et (0, 0) hheap
  have hlo : ∀ k, k < off * sz → (w.setRow (φ j) (splice ys.toList (off * sz) vals).toArray).cell? ⟨φ j, k, none⟩ = w.cell? ⟨φ j, k, none⟩ := fun k hk => by
    rw [cell_of_heap_get hnew, cell_of_heap_get hheap, List.getElem?_toArray, splice_get_lo (by simpa using hfit2) hk]; simp
  have hhi : ∀ k, off * sz + vals.length ≤ k → (w.setRow (φ j) (splice ys.toList (off * sz) vals).toArray).cell? ⟨φ j, k, none⟩ = w.cell? ⟨φ j, k, none⟩ := fun k hk => by
    rw [cell_of_heap_get hnew, cell_of_heap_get hheap, List.getElem?_toArray, splice_get_hi (by simpa using hfit2) hk]; simp
  have hmid : ∀ q u, vals[q]? = some u → (w.setRow (φ j) (splice ys.toList (off * sz) vals).toArray).cell? ⟨φ j, off * sz + q, none⟩ = some u := fun q u hu => by
    have hq := (List.getElem?_eq_some_iff.1 hu).1
    rw [cell_of_heap_get hnew, List.getElem?_toArray, splice_get_mid (by simpa using hfit2) (by omega) (by omega), Nat.add_sub_cancel_left]; exact hu
  have hrow : CRows A (w.setRow (φ j) (splice ys.toList (off * sz) vals).toArray) sz (φ j) 0 (splice es off new) := by
    have l1 : (es.take off).length = off := by simp; omega
    have hsplit : es = es.take off ++ ((es.drop off).take new.length ++ es.drop (off + new.length)) := by
      rw [← List.drop_drop, List.take_append_drop, List.take_append_drop]
    have l2 : ((es.drop off).take new.length).length = new.length := by simp; omega
    rw [hsplit, CRows.append, CRows.append, l1, l2, Nat.zero_add] at hrows
    have hs : splice es off new = es.take off ++ (new ++ es.drop (off + new.length)) := by simp [splice]
    rw [hs, CRows.append, CRows.append, l1, Nat.zero_add]
    refine ⟨CRows.congr hg.keeps (fun k hk => ?_) hrows.1, CRows.of hv2 (CCells.of hg hv1 fun q u hu => hmid q u hu), CRows.congr hg.keeps (fun k hk => ?_) hrows.2.2⟩
    · rw [l1] at hk; rw [Nat.zero_add]; exact hlo k hk
    · exact hhi _ (by omega)
  exact ⟨_, hstore, h.write (ob := .row sz true (splice es off new)) hj rfl hheap hlen (fun k hk => by simp [Ob.ids] at hk) (by simp only [CO]; exact ⟨by simp, fun _ => ⟨⟨_, et, hnew⟩, hrow⟩⟩), hg⟩

theorem splice_nil {α : Type} (l : List α) (k : Nat) : splice l k [] = l := by simp [splice]

theorem row_same (h : RS E F sto w A φ) {j sz : Nat} {es : List (List T)} (hj : sto j = some (.row sz true es)) (off : Nat) : RS E F (upd sto j (some (.row sz true (splice es off [])))) w A φ := by
  have e : upd sto j (some (.row sz true (splice es off []))) = sto := by
    funext k; unfold upd; split
    · rename_i hk; subst hk; rw [splice_nil, hj]
    · rfl
  rw [e]; exact h

theorem flat_take {sz : Nat} : ∀ {new : List (List T)} {n : Nat}, (∀ e ∈ new, e.length = sz) → (new.take n).flatten = new.flatten.take (n * sz)
  | [], n, _ => by simp
  | e :: new, 0, _ => by simp
  | e :: new, n + 1, h => by
    have h1 := h e (by simp)
    simp only [List.take_succ_cons, List.flatten_cons]
    rw [flat_take (fun x hx => h x (by simp [hx])), List.take_append, h1, Nat.add_mul, Nat.one_mul]
    rw [List.take_of_length_le (l := e) (by omega)]
    congr 2
    omega

theorem cells_of_own {j sz off len : Nat} {r : Bool} {v : Value} (h : CA A φ w (.own j sz off len r) v) : ∃ a cap, v = .slice a len cap ∧ (len = 0 ∨ a = some ⟨φ j, off * sz, none⟩) := by
  simp only [CA] at h
  obtain ⟨a, cap, rfl, hl, _, hr⟩ := h
  refine ⟨a, cap, rfl, ?_⟩
  rcases hr with hr | hr
  · left; omega
  · exact Or.inr hr.1

theorem sim_cpy {G : Nat → Option (List T)} {st : St} {n : Nat} {a : Act} (hG : GOK E G) (h : RS E F st.sto w A φ) (r : RE st n a w A φ) {args : Array Operand} {ts : Array TypeId} {ty : TypeId} {so : SOp} (hs : slimOp P G (.call ⟨.builtin .copy, args, ts⟩) = some so) {id : Nat} {x : AV} {wr : List (Nat × Ob)}
    (hc : core id so (·.ev st.env) st.sto = some (x, wr)) :
    ∃ v w', (Builtin.copy_ ts ty (args.map a.eval)).run P w = .ok v w' ∧ Did E F st.sto A φ w x v (applyWr st.sto wr) w' A φ := by
  simp only [slimOp] at hs
  split at hs
  · rename_i t d s ht0 ha0 ha1
    split at hs
    · rename_i e hu
      split at hs
      · rename_i m ds ss hm hds hss
        injection hs with hs; subst hs
        have evd := ev_ok hG h r hds
        have evs := ev_ok hG h r hss
        have hw0 : (args.map a.eval)[0]? = some (a.eval d) := by simp [ha0]
        have hw1 : (args.map a.eval)[1]? = some (a.eval s) := by simp [ha1]
        simp only [core] at hc
        split at hc
        · rename_i new j s' off len rr hnew hown
          have eown := AV.asOwn_eq hown
          obtain ⟨bx, cx, vals, hxv, hv1, hv2, hv3, hv4⟩ := slTrees_ok h hnew evs.1
          split at hc
          · rename_i s'' es hj
            split at hc
            · rename_i hcnd
              obtain ⟨rfl, rfl, hfit⟩ := hcnd
              simp only [Option.some.injEq, Prod.mk.injEq] at hc
              obtain ⟨rfl, rfl⟩ := hc
              have hd := evd.1; rw [eown] at hd
              obtain ⟨ad, cap, hdv, hlen⟩ := cells_of_own hd
              have hmin : (new.take len).length = min new.length len := by simp [Nat.min_comm]
              have hfl : (new.take len).flatten = new.flatten.take (min new.length len * s'') := by
                rw [flat_take hv2]
                rcases Nat.le_total new.length len with hle | hle
                · rw [Nat.min_eq_left hle, List.take_of_length_le (by rw [flatten_len hv2]; exact Nat.mul_le_mul_right _ hle), List.take_of_length_le (by rw [flatten_len hv2]; exact Nat.le_refl _)]
                · rw [Nat.min_eq_right hle]
              have hcas : CAs A φ w ((new.take len).flatten.map .t) (vals.take (min new.length len * s'')) := by
                rw [hfl, List.map_take]; exact hv1.take _
              have hvl : (vals.take (min new.length len * s'')).length = (new.take len).length * s'' := by
                rw [hmin, List.length_take, hv3]
                exact Nat.min_eq_left (Nat.mul_le_mul_right _ (Nat.min_le_left _ _))
              have hvl2 : (vals.take (min new.length len * s'')).length = min new.length len * s'' := by rw [hvl, hmin]
              have hfirst : (Builtin.firstCells s'' (min new.length len) (.slice bx new.length cx)).run P w = .ok (vals.take (min new.length len * s'')).toArray w := by
                have := run_first (P := P) (w := w) (sz := s'') (n := min new.length len) (ba := bx) (len := new.length) (cap := cx) (vals := vals.take (min new.length len * s'')) hvl2 (by
                  rcases hv4 with ho4 | ⟨b, o, hb, hcc⟩
                  · left; rw [ho4]; simp
                  · right; refine ⟨b, o, hb, fun k v hv => ?_⟩
                    rw [List.getElem?_take] at hv
                    split at hv
                    · exact hcc k v hv
                    · cases hv)
                exact this
              have hrun : ∀ w', (match ad with | some q => (storeCells q (vals.take (min new.length len * s''))).run P w | none => .ok () w) = .ok () w' →
                  (Builtin.copy_ ts ty (args.map a.eval)).run P w = .ok (.int .i64 ((min new.length len : Nat) : Int)) w' := by
                intro w' hst
                simp only [Builtin.copy_, ht0, hw0, hw1, hdv, hxv, Sem.run_bind, run_underlying hu, Result.andThen_ok, Builtin.lenOf, Sem.run_pure, run_sizeOf hm]
                have e1 : Nat.min new.length len = min new.length len := rfl
                simp only [e1, hfirst, Result.andThen_ok]
                cases ad with
                | none => simp only at hst; injection hst with h1 h2; subst h2; simp [goInt]
                | some q => simp only at hst; simp [hst, goInt]
              by_cases h0 : (new.take len) = []
              · have hv0 : vals.take (min new.length len * s'') = [] := List.eq_nil_of_length_eq_zero (by rw [hvl, h0]; simp)
                refine ⟨_, w, hrun w (by rw [hv0]; cases ad <;> simp [storeCells]), ?_⟩
                have hrs := row_same h hj off
                rw [← h0] at hrs
                exact ⟨hrs, Goes.refl A w, fun _ _ => rfl, fun k hk => applyWr_mono hk, ca_mk rfl, by simp [AV.ids]⟩
              · have hpos : len ≠ 0 := fun e0 => h0 (by rw [e0]; simp)
                rcases hlen with hlen | hlen
                · exact absurd hlen hpos
                · obtain ⟨w', g1, g2, g3⟩ := row_write (P := P) h hj hcas (fun e he => hv2 e (List.mem_of_mem_take he)) hvl (off := off) (by rw [hmin]; omega)
                  refine ⟨_, w', hrun w' (by rw [hlen]; exact g1), g2, g3, fun _ _ => rfl, fun k hk => applyWr_mono hk, ca_mk rfl, by simp [AV.ids]⟩
            · simp at hc
          · simp at hc
        · simp at hc
      · simp at hs
    · simp at hs
  · simp at hs

theorem sim_clr {G : Nat → Option (List T)} {st : St} {n : Nat} {a : Act} (hG : GOK E G) (h : RS E F st.sto w A φ) (r : RE st n a w A φ) {args : Array Operand} {ts : Array TypeId} {ty : TypeId} {so : SOp} (hs : slimOp P G (.call ⟨.builtin .clear, args, ts⟩) = some so) {id : Nat} {x : AV} {wr : List (Nat × Ob)}
    (hc : core id so (·.ev st.env) st.sto = some (x, wr)) :
    ∃ v w', (Builtin.clear_ ts ty (args.map a.eval)).run P w = .ok v w' ∧ Did E F st.sto A φ w x v (applyWr st.sto wr) w' A φ := by
  simp only [slimOp] at hs
  split at hs
  · rename_i t d ht0 ha0
    split at hs
    · rename_i e hu
      split at hs
      · rename_i i z ds hi hz hds
        split at hs
        · rename_i hzz
          injection hs with hs; subst hs
          obtain ⟨hzl, hz0⟩ := hzz
          have evd := ev_ok hG h r hds
          have hw0 : (args.map a.eval)[0]? = some (a.eval d) := by simp [ha0]
          obtain ⟨zv, z1, z2, z3, z4⟩ := zero_ok hz
          have hzc : zv.cells.size = i.size := by rw [← hzl, z4]; simp
          simp only [core] at hc
          split at hc
          · rename_i j s' off len rr hown
            have eown := AV.asOwn_eq hown
            split at hc
            · rename_i s'' es hj
              split at hc
              · rename_i hcnd
                obtain ⟨rfl, hss, hfit⟩ := hcnd
                subst hss
                simp only [Option.some.injEq, Prod.mk.injEq] at hc
                obtain ⟨rfl, rfl⟩ := hc
                have hd := evd.1; rw [eown] at hd
                obtain ⟨ad, cap, hdv, hlen⟩ := cells_of_own hd
                have hca : CA A φ w (.tp []) (.tuple #[]) := by simp only [CA]; exact ⟨#[], rfl, by simp [CAs]⟩
                by_cases h0 : len = 0
                · subst h0
                  refine ⟨.tuple #[], w, ?_, row_same h hj off, Goes.refl A w, fun _ _ => rfl, fun k hk => applyWr_mono hk, hca, by simp [AV.ids, idsL]⟩
                  simp only [Builtin.clear_, ht0, hw0, hdv, Sem.run_bind, run_underlying hu, Result.andThen_ok]
                  cases ad <;> simp
                · rcases hlen with hlen | hlen
                  · exact absurd hlen h0
                  · have hzr : ∀ len, (Builtin.zeroCells zv.cells len).toList = (List.replicate len zv.cells.toList).flatten := by
                      intro len
                      unfold Builtin.zeroCells
                      rw [← zeroRows (by simp; omega), zeroArr]
                      simp
                    have hcas : ∀ len, CAs A φ w ((List.replicate len z).flatten.map .t) (List.replicate len zv.cells.toList).flatten := by
                      intro len
                      induction len with
                      | zero => simp [CAs]
                      | succ len ih => simp only [List.replicate_succ, List.flatten_cons, List.map_append]; exact (z2 A φ w).append ih
                    have hvl : (List.replicate len zv.cells.toList).flatten.length = (List.replicate len z).length * i.size := by
                      rw [flatten_len (n := i.size) (fun e he => by rw [(List.mem_replicate.1 he).2]; simpa using hzc)]; simp
                    obtain ⟨w', g1, g2, g3⟩ := row_write (P := P) h hj (hcas len) (fun e he => by rw [(List.mem_replicate.1 he).2]; exact hzl) hvl (off := off) (by simpa using hfit)
                    refine ⟨.tuple #[], w', ?_, g2, g3, fun _ _ => rfl, fun k hk => applyWr_mono hk, ?_, by simp [AV.ids, idsL]⟩
                    · obtain ⟨len', rfl⟩ := Nat.exists_eq_succ_of_ne_zero h0
                      simp only [Builtin.clear_, ht0, hw0, hdv, hlen, Sem.run_bind, run_underlying hu, Result.andThen_ok, z1, hzr, g1, Sem.run_pure]
                    · simp only [CA]; exact ⟨#[], rfl, by simp [CAs]⟩
              · simp at hc
            · simp at hc
          · simp at hc
        · simp at hs
      · simp at hs
    · simp at hs
  · simp at hs

end
end Go.Sx
