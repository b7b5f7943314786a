/- The library's sort of a row of one's own, by a function that compares: its contract out of the kit's. No statement of a seat is proved here. -/
import Derived.Test.YtmjlldlaigoflaaGreatSxH
import Derived.Shelf.SlSortCmp.WholeK
set_option linter.unusedSimpArgs false
set_option linter.unusedVariables false
namespace Go.Sx
open Go.Shelf Go.Proofs

theorem frozen_none {w : World} {b o : Nat} {ys : Array Value} {e : TypeId} (h : w.heap[b]? = some (.cells ys e (0, 0))) : w.frozen? ⟨b, o, none⟩ = false := by
  simp [World.frozen?, h]

section
variable {α : Type} [Inhabited α] {enc : α → List Value} {k : Nat} {w : World} {b : Nat}

theorem sw_heap_other (dk : Array α) (m : Nat) (os : Array Obj) {c : Nat} (hc : c < w.heap.size) (hb : c ≠ b) : (sortWorldK enc k w b 0 m dk os).heap[c]? = w.heap[c]? := by
  unfold sortWorldK
  rw [Sort.heap_grow_old _ _ (by simpa [Sort.putRowK, Sort.putRow, Sort.mapBlock, Sort.ahead] using hc)]
  simp only [Sort.putRowK, Sort.putRow, Sort.mapBlock, Sort.ahead, Array.getElem?_modify, if_neg (Ne.symm hb)]

theorem sw_heap_same (dk : Array α) (m : Nat) (os : Array Obj) {ys : Array Value} {e : TypeId} {fr : Nat × Nat} (h : w.heap[b]? = some (.cells ys e fr)) :
    (sortWorldK enc k w b 0 m dk os).heap[b]? = some (.cells (Sort.putCells id 0 (Sort.flatK enc k dk) ys) e fr) := by
  have hb := heap_lt h
  unfold sortWorldK
  rw [Sort.heap_grow_old _ _ (by simpa [Sort.putRowK, Sort.putRow, Sort.mapBlock, Sort.ahead] using hb)]
  simp only [Sort.putRowK, Sort.putRow, Sort.mapBlock, Sort.ahead, Array.getElem?_modify, if_true, h, Option.map_some, Sort.onCells]

theorem sw_size (dk : Array α) (m : Nat) (os : Array Obj) : (sortWorldK enc k w b 0 m dk os).heap.size = w.heap.size + os.size := by
  simp [sortWorldK, Sort.putRowK, Sort.putRow, Sort.mapBlock, Sort.ahead]

/-- The elements of a list as the rows of an object. -/
def rowE (enc : α → List Value) (xs : List α) : List (List T) := xs.map fun x => (enc x).map .v

theorem ccells_ofV {A : Nat → Prop} : ∀ {vs : List Value} {o : Nat}, (∀ c (v : Value), vs[c]? = some v → w.cell? ⟨b, o + c, none⟩ = some v ∧ v.oneCell' = true) → CCells A w b o (vs.map .v)
  | [], _, _ => by simp [CCells]
  | v :: vs, o, h => by
    simp only [List.map_cons, CCells]
    have h0 := h 0 v rfl
    refine ⟨⟨v, h0.1, by simp only [CT, true_and]; exact h0.2⟩, ccells_ofV fun c u hu => ?_⟩
    have := h (c + 1) u (by simpa using hu)
    rwa [show o + (c + 1) = o + 1 + c by omega] at this

omit [Inhabited α] in
theorem crows_ofV {A : Nat → Prop} (hk : ∀ x, (enc x).length = k) : ∀ {xs : List α} {o : Nat}, (∀ (i : Nat) (x : α) c (v : Value), xs[i]? = some x → (enc x)[c]? = some v → w.cell? ⟨b, o + i * k + c, none⟩ = some v ∧ v.oneCell' = true) → CRows A w k b o (rowE enc xs)
  | [], _, _ => by simp [rowE, CRows]
  | x :: xs, o, h => by
    simp only [rowE, List.map_cons, CRows]
    refine ⟨⟨by simp [hk], ccells_ofV fun c v hv => ?_⟩, ?_⟩
    · have := h 0 x c v rfl hv
      simpa using this
    · refine crows_ofV hk (xs := xs) fun i y c v hy hv => ?_
      have := h (i + 1) y c v (by simpa using hy) hv
      rwa [show o + (i + 1) * k + c = o + k + i * k + c by rw [Nat.add_mul]; omega] at this

omit [Inhabited α] in
theorem cells_of_crows {A : Nat → Prop} {xs : List α} (h : CRows A w k b 0 (rowE enc xs)) {i : Nat} {x : α} {c : Nat} {v : Value} (hi : xs[i]? = some x) (hv : (enc x)[c]? = some v) : w.cell? ⟨b, i * k + c, none⟩ = some v := by
  have h1 := CRows.get h (i := i) (e := (enc x).map .v) (by simp [rowE, hi])
  obtain ⟨y, hy, hc⟩ := CCells.get h1.2 (i := c) (c := .v v) (by simp [hv])
  simp only [CT] at hc
  rw [Nat.zero_add] at hy
  rw [hy, hc.1]

theorem holdsK_of {A : Nat → Prop} (hk : ∀ x, (enc x).length = k) {xs : List α} (h : CRows A w k b 0 (rowE enc xs)) {ys : Array Value} {e : TypeId} (hb : w.heap[b]? = some (.cells ys e (0, 0))) : Sort.HoldsK enc k w b 0 xs.toArray := by
  intro j hj
  rw [Sort.size_flatK] at hj
  simp only [List.size_toArray] at hj
  have k0 : 0 < k := by rcases Nat.eq_zero_or_pos k with h0 | h0; · subst h0; simp at hj
                        · exact h0
  refine ⟨?_, frozen_none hb⟩
  rw [Sort.get_flatK _ _ _ _ (by simpa using hj)]
  have hi : j / k < xs.length := (Nat.div_lt_iff_lt_mul k0).2 hj
  have hc : j % k < (enc xs[j / k]).length := by rw [hk]; exact Nat.mod_lt _ k0
  have := cells_of_crows h (i := j / k) (x := xs[j / k]) (c := j % k) (v := (enc xs[j / k])[j % k]) (List.getElem?_eq_getElem hi) (List.getElem?_eq_getElem hc)
  rw [Nat.mul_comm, Nat.div_add_mod] at this
  rw [Nat.zero_add, this]
  congr 1
  rw [getElem!_pos xs.toArray (j / k) (by simpa using hi), getElem!_pos _ (j % k) (by simpa using hc)]
  simp

mutual
theorem CRows.move {o0 : Nat} {A : Nat → Prop} {w w' : World} {b : Nat} (hk : Keeps A A w w') (hc : ∀ o v, o0 ≤ o → w.cell? ⟨b, o, none⟩ = some v → w'.cell? ⟨b, o, none⟩ = some v) (sz : Nat) : ∀ (o : Nat) (es : List (List T)), o0 ≤ o → CRows A w sz b o es → CRows A w' sz b o es
  | _, [], _, _ => by simp only [CRows]
  | o, e :: es, ho, h => by
    simp only [CRows] at h ⊢
    exact ⟨⟨h.1.1, CCells.move hk hc o e ho h.1.2⟩, CRows.move hk hc sz _ es (by omega) h.2⟩
theorem CCells.move {o0 : Nat} {A : Nat → Prop} {w w' : World} {b : Nat} (hk : Keeps A A w w') (hc : ∀ o v, o0 ≤ o → w.cell? ⟨b, o, none⟩ = some v → w'.cell? ⟨b, o, none⟩ = some v) : ∀ (o : Nat) (cs : List T), o0 ≤ o → CCells A w b o cs → CCells A w' b o cs
  | _, [], _, _ => by simp only [CCells]
  | o, c :: cs, ho, h => by
    simp only [CCells] at h ⊢
    obtain ⟨⟨y, hy, hcy⟩, hr⟩ := h
    exact ⟨⟨y, hc o y ho hy, CT.keeps hk c y hcy⟩, CCells.move hk hc _ cs (by omega) hr⟩
end

theorem sw_cell_far (dk : Array α) (m : Nat) (os : Array Obj) {ys : Array Value} {e : TypeId} {fr : Nat × Nat} (h : w.heap[b]? = some (.cells ys e fr)) {o : Nat} {v : Value} (ho : dk.size * k ≤ o) (hv : w.cell? ⟨b, o, none⟩ = some v) :
    (sortWorldK enc k w b 0 m dk os).cell? ⟨b, o, none⟩ = some v := by
  have h2 := sw_heap_same (enc := enc) (k := k) dk m os h
  simp only [World.cell?, h] at hv
  simp only [World.cell?, h2, Sort.putCells, Array.getElem?_mapIdx, Option.isSome_none, Bool.false_eq_true, if_false] at hv ⊢
  rw [hv]
  simp only [Option.map_some, Sort.size_flatK]
  rw [if_neg (by omega)]

/-- A world that has grown. -/
theorem world_grown {w w' : World} (h1 : ∀ c, c < w.heap.size → w'.heap[c]? = w.heap[c]?) (h2 : w.heap.size ≤ w'.heap.size) (h3 : w'.os = w.os) (h4 : w'.tape = w.tape) (h5 : w'.output = w.output) (h6 : w.drawn ≤ w'.drawn) :
    ∃ q os, w' = Sort.grow (w.drewN q) os := by
  refine ⟨w'.drawn - w.drawn, w'.heap.extract w.heap.size, ?_⟩
  cases w' with
  | mk heap tape drawn os output =>
    cases w with
    | mk heap0 tape0 drawn0 os0 output0 =>
      simp only at h1 h2 h3 h4 h5 h6
      subst h3 h4 h5
      simp only [Sort.grow, World.drewN, World.mk.injEq, true_and, and_true]
      refine ⟨?_, by omega⟩
      apply Array.ext_getElem?
      intro c
      rw [Array.getElem?_append]
      split
      · rename_i h; exact h1 c h
      · rename_i h
        rw [Array.getElem?_extract]
        rcases Nat.lt_or_ge c heap.size with hc | hc
        · rw [if_pos (by omega)]
          congr 1; omega
        · rw [Array.getElem?_eq_none hc]
          split
          · rename_i h'; omega
          · rfl
end

section
variable {P : Program} {E : Env} {ρ : Ren} {α : Type} [Inhabited α]

theorem cas_vals {A : Nat → Prop} {φ : Nat → Nat} {w : World} : ∀ {vs : List Value}, (∀ v ∈ vs, v.oneCell' = true) → CAs A φ w (vs.map fun v => .t (.v v)) vs
  | [], _ => by simp [CAs]
  | v :: vs, h => by
    simp only [List.map_cons, CAs]
    exact ⟨v, vs, rfl, by simp only [CA, CT, true_and]; exact h v (by simp), cas_vals fun u hu => h u (by simp [hu])⟩

/-- The sort of a row that is one's own. -/
theorem sort_meets (L : SlLaysF0.n6 P ρ) (k : Nat) (aE : ∀ w, (isAgg (ρ.t 24)).run P w = .ok true w) (zE : ∀ w, (Go.sizeOf (ρ.t 24)).run P w = .ok k w) (enc : α → List Value) (hk : ∀ x, (enc x).length = k) (h1 : ∀ x, ∀ v ∈ enc x, v.oneCell' = true)
    (cf : α → α → Int) (hO : Sort.SWO (ltOf cf)) (g : FuncId) (eg : ∀ args w, (callFunc g args).run P w = .ok (.enter g args) w)
    (hg : ∀ x y : α, Meets P E g [.ag ((enc x).map fun v => .t (.v v)), .ag ((enc y).map fun v => .t (.v v))] [] (I (cf x y)) []) (xs : List α) (rest : List (List T)) (hn : 1 ≤ xs.length) (hsz : xs.length < 4611686018427387904) :
    Meets P E (ρ.f 6) [.own 0 k 0 xs.length true, .fn g [] []] [(0, .row k true (rowE enc xs ++ rest))] (.tp []) [(0, .row k true (rowE enc (Sort.pdq (ltOf cf) xs.toArray 0 xs.length (Lib.bitLen xs.length) true true).toList ++ rest))] where
  shutIn := shut_of (by simp [idsL, AV.ids, keysOf]) (by simp [Ob.live, Ob.ids])
  shutOut := shut_of (by simp [idsL, AV.ids, keysOf]) (by simp [Ob.live, Ob.ids])
  stay := by simp [keysOf]
  runs := fun A φ w vals gi gA alt hH hargs => by
    have ho := hH.obj 0 _ rfl
    have hown := hH.own 0 _ rfl
    simp only [CO] at ho
    obtain ⟨_, ho⟩ := ho
    obtain ⟨⟨ys, e, hb⟩, hrow⟩ := ho trivial
    rw [CRows.append] at hrow
    obtain ⟨hrow, hrest⟩ := hrow
    rw [Nat.zero_add, show (rowE enc xs).length = xs.length by simp [rowE]] at hrest
    obtain ⟨hnA, hlt⟩ := hown
    simp only [CAs, CA] at hargs
    obtain ⟨_, _, hv0, ⟨a, cap, rfl, hle, _, hcap⟩, _, _, rfl, ⟨us, us2, rfl, hus, hus2⟩, rfl⟩ := hargs
    have hus : us = #[] := by cases us; simp_all
    have hus2 : us2 = #[] := by cases us2; simp_all
    subst hus hus2
    rcases hcap with hcap | ⟨rfl, hcap⟩
    · omega
    have hvals : vals = #[.slice (some ⟨φ 0, 0, none⟩) xs.toArray.size cap, .func (.func g) #[] #[]] := by
      cases vals; simp_all
    obtain ⟨ys1, e1, hb1, hys⟩ := hcap
    rw [hb] at hb1
    injection hb1 with hb1; injection hb1 with hb1 he1
    subst hb1
    have hysz : xs.length * k ≤ ys.size := by
      have : xs.length * k ≤ (0 + cap) * k := Nat.mul_le_mul_right k (by omega)
      omega
    refine Or.inl ⟨L.f6.enters rfl vals w, ?_⟩
    have hcmp : CmpLays P g #[] enc k cf (φ 0) 0 xs.toArray.size w := by
      intro m os dk hs x y
      have hkeep : ∀ c, E.gb c → (sortWorldK enc k w (φ 0) 0 m dk os).heap[c]? = w.heap[c]? := fun c hc => by
        have hcA := gA c hc
        exact sw_heap_other dk m os (alt c hcA) (fun e => hnA (e ▸ hcA))
      have hr := (hg x y).runs (fun c => E.gb c) id (sortWorldK enc k w (φ 0) 0 m dk os) #[.agg (enc x).toArray, .agg (enc y).toArray] (E.stable _ _ hkeep gi) (fun _ h => h)
        (fun c hc => by rw [sw_size]; have := alt c (gA c hc); omega) ⟨by simp [stoOf], by simp [stoOf], by simp [keysOf]⟩ (by
          simp only [CAs, CA]
          exact ⟨_, _, rfl, ⟨_, rfl, cas_vals (h1 x)⟩, _, _, rfl, ⟨_, rfl, cas_vals (h1 y)⟩, rfl⟩)
      rcases hr with ⟨_, hr⟩ | ⟨v, w', hr, _⟩
      · refine hr.mono ?_
        rintro e w' ⟨v, he, A', φ', hf⟩
        have hv : v = .int .i64 (cf x y) := (ca_v hf.ca).1
        subst hv
        exact ⟨he, world_grown (fun c hc => hf.old c hc (by simp [keysOf])) hf.size hf.os hf.tape hf.output hf.drawn⟩
      · rw [eg] at hr; cases hr
    have hK := holdsK_of hk hrow hb
    have hcall := AnyQ.slices_SortFunc_eq L k aE zE enc hk h1 cf hO g #[] (φ 0) 0 cap xs.toArray w eg hcmp hK hlt (by simpa using hsz)
    rw [hvals]
    refine hcall.mono fun e' w' ⟨he, m, os, hw⟩ => ⟨_, he, A, φ, ?_⟩
    simp only [List.size_toArray] at hw
    have hperm := Sort.pdq_sorts (ltOf cf) hO xs.toArray 0 xs.toArray.size (Lib.bitLen xs.toArray.size) true true (Nat.zero_le _) (Nat.le_refl _) (Or.inl rfl)
    have hpsz := hperm.1.1
    simp only [List.size_toArray] at hpsz
    generalize hd : Sort.pdq (ltOf cf) xs.toArray 0 xs.length (Lib.bitLen xs.length) true true = d' at *
    subst hw
    have hbn := sw_heap_same (enc := enc) (k := k) d' m os hb
    have hother : ∀ c, c < w.heap.size → c ≠ φ 0 → (sortWorldK enc k w (φ 0) 0 m d' os).heap[c]? = w.heap[c]? := fun c => sw_heap_other d' m os
    have hsize : (Sort.putCells id 0 (Sort.flatK enc k d') ys).size = ys.size := by simp [Sort.putCells]
    have hKn : Sort.HoldsK enc k (sortWorldK enc k w (φ 0) 0 m d' os) (φ 0) 0 d' := by
      unfold sortWorldK
      refine Sort.holdsK_grow enc k _ os (φ 0) 0 d' (by simpa [Sort.putRowK, Sort.putRow, Sort.mapBlock, Sort.ahead] using hlt) ?_
      exact Sort.holdsK_putRowK enc k _ (φ 0) 0 xs.toArray d' (Sort.holdsK_ahead enc k w m (φ 0) 0 xs.toArray hK) (by simpa using hpsz)
    have hrow' : CRows A (sortWorldK enc k w (φ 0) 0 m d' os) k (φ 0) 0 (rowE enc d'.toList) := by
      refine crows_ofV hk fun i x c v hx hv => ?_
      have hi : i < d'.size := by simpa using (List.getElem?_eq_some_iff.1 hx).1
      have hc : c < k := by rw [← hk x]; exact (List.getElem?_eq_some_iff.1 hv).1
      have := (Sort.HoldsK.cell hKn hi hc).1
      have hx2 : d'[i]! = x := by
        rw [getElem!_pos d' i hi]
        have := (List.getElem?_eq_some_iff.1 hx).2
        simpa using this
      rw [hx2] at this
      have hv2 : (enc x)[c]! = v := by
        have h3 := List.getElem?_eq_some_iff.1 hv
        rw [getElem!_pos (enc x) c h3.1]; exact h3.2
      rw [hv2] at this
      exact ⟨by simpa using this, h1 x v (List.mem_of_getElem? hv)⟩
    exact {
      go := ⟨fun c hc => ⟨hc, hother c (alt c hc) (fun e => hnA (e ▸ hc))⟩, fun c n hc => by
        by_cases hcb : c = φ 0
        · subst hcb
          obtain ⟨cs, e2, h2, h3⟩ := hc
          rw [hb] at h2; injection h2 with h2; injection h2 with h2 h4; subst h2
          exact ⟨_, _, hbn, by rw [hsize]; exact h3⟩
        · exact RowCap.of_heap (hother c hc.lt hcb) hc⟩
      agree := fun _ _ => rfl
      holds := {
        obj := fun id o ho => by
          simp only [stoOf] at ho
          split at ho
          · rename_i hid; subst hid
            injection ho with ho; subst ho
            simp only [CO]
            refine ⟨by simp, fun _ => ⟨⟨_, _, hbn⟩, ?_⟩⟩
            rw [CRows.append]
            refine ⟨hrow', ?_⟩
            rw [Nat.zero_add, show (rowE enc d'.toList).length = xs.length by simp [rowE, hpsz]]
            exact CRows.move (fun c hc => ⟨hc, hother c (alt c hc) (fun e => hnA (e ▸ hc))⟩) (fun o v ho hv => sw_cell_far d' m os hb (by rw [hpsz]; exact ho) hv) k _ rest (Nat.le_refl _) hrest
          · cases ho
        own := fun id o ho => by
          simp only [stoOf] at ho
          split at ho
          · rename_i hid; subst hid
            exact ⟨hnA, by rw [sw_size]; omega⟩
          · cases ho
        inj := fun i j hi hj hij => by simp [keysOf] at hi hj; omega }
      fresh := fun id hid => Or.inl (by simpa [keysOf] using hid)
      ca := by simp only [CA, CAs]; exact ⟨#[], rfl, rfl⟩
      anew := fun c hc => Or.inl hc
      alt := fun c hc => by rw [sw_size]; have := alt c hc; omega
      old := fun c hc hne => hother c hc (fun e => hne 0 (by simp [keysOf]) e.symm)
      os := rfl
      tape := rfl
      output := rfl
      drawn := Nat.le_add_right _ _
      size := by rw [sw_size]; omega }
end
end Go.Sx
