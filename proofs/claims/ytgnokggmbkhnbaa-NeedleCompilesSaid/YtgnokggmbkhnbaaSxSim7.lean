/- Append. No statement of a seat is proved here. -/
import Derived.Test.YtgnokggmbkhnbaaSxSim6
set_option linter.unusedSimpArgs false
set_option linter.unusedVariables false
namespace Go.Sx
section
variable {P : Program} {E : Env} {F : Frm} {sto : Nat → Option Ob} {w : World} {A : Nat → Prop} {φ : Nat → Nat}

theorem run_first {sz n : Nat} {ba : Option Addr} {len cap : Nat} {vals : List Value} (hl : vals.length = n * sz) (h : vals = [] ∨ ∃ b o, ba = some ⟨b, o, none⟩ ∧ ∀ (j : Nat) v, vals[j]? = some v → w.cell? ⟨b, o + j, none⟩ = some v) :
    (Builtin.firstCells sz n (.slice ba len cap)).run P w = .ok vals.toArray w := by
  cases ba with
  | none =>
    rcases h with h | ⟨b, o, hb, _⟩
    · subst h; simp [Builtin.firstCells]
    · cases hb
  | some a =>
    simp only [Builtin.firstCells, ← hl]
    refine run_loadCells_list (P := P) w a vals fun j v hv => ?_
    rcases h with h | ⟨b, o, hb, hc⟩
    · subst h; simp at hv
    · injection hb with hb; subst hb; rw [addr_add]; exact hc j v hv

/-- The elements of a slice that is read: its value, and its cells. -/
theorem slTrees_ok (h : RS E F sto w A φ) {sz : Nat} {x : AV} {xv : Value} {es : List (List T)} (hs : slTrees sz sto x = some es) (hx : CA A φ w x xv) :
    ∃ ba cap vals, xv = .slice ba es.length cap ∧ CAs A φ w (es.flatten.map .t) vals ∧ (∀ e ∈ es, e.length = sz) ∧ vals.length = es.length * sz ∧
      (vals = [] ∨ ∃ b o, ba = some ⟨b, o, none⟩ ∧ ∀ (j : Nat) v, vals[j]? = some v → w.cell? ⟨b, o + j, none⟩ = some v) := by
  have rows : ∀ {b o : Nat} {ba : Option Addr} {cap : Nat}, xv = .slice ba es.length cap → CRows A w sz b o es → (es = [] ∨ ba = some ⟨b, o, none⟩) → ∃ ba cap vals, xv = .slice ba es.length cap ∧ CAs A φ w (es.flatten.map .t) vals ∧ (∀ e ∈ es, e.length = sz) ∧ vals.length = es.length * sz ∧
      (vals = [] ∨ ∃ b o, ba = some ⟨b, o, none⟩ ∧ ∀ (j : Nat) v, vals[j]? = some v → w.cell? ⟨b, o + j, none⟩ = some v) := by
    intro b o ba cap hv hr hb
    obtain ⟨vals, v1, v2, v3⟩ := hr.flatten.1.toCAs (φ := φ)
    refine ⟨ba, cap, vals, hv, v1, hr.lens, by rw [v2, hr.flatten.2], ?_⟩
    rcases hb with hb | hb
    · subst hb; simp at v2; exact Or.inl v2
    · exact Or.inr ⟨b, o, hb, v3⟩
  unfold slTrees at hs
  split at hs
  · rename_i id s off len r ho
    have e := AV.asOwn_eq ho; subst e
    split at hs
    · rename_i hss; subst hss
      simp only [CA] at hx
      obtain ⟨a, cap, rfl, hle, hrf, hr⟩ := hx
      unfold rowPart at hs
      split at hs
      · rename_i s' real es' hob
        split at hs
        · rename_i hc
          obtain ⟨rfl, hfit⟩ := hc
          injection hs with hs
          have hlen : es.length = len := by rw [← hs]; simp; omega
          have hco := h.obj id _ hob
          simp only [CO] at hco
          cases real with
          | false =>
            have := hco.1 rfl; subst this
            simp at hs; subst hs
            exact rows (b := 0) (o := 0) (ba := a) (cap := cap) (by rw [← hlen]) (by simp only [CRows]) (Or.inl rfl)
          | true =>
            have hcr := ((hco.2 rfl).2.drop off).take len
            rw [hs, Nat.zero_add] at hcr
            refine rows (ba := a) (cap := cap) (by rw [hlen]) hcr ?_
            rcases hr with hr | hr
            · left; apply List.eq_nil_of_length_eq_zero; omega
            · exact Or.inr hr.1
        · simp at hs
      · rename_i s' es' hob
        split at hs
        · rename_i hc
          obtain ⟨rfl, hfit⟩ := hc
          injection hs with hs
          have hlen : es.length = len := by rw [← hs]; simp; omega
          have hco := h.obj id _ hob
          simp only [CO] at hco
          have hcr := (hco.2.drop off).take len
          rw [hs, Nat.zero_add] at hcr
          refine rows (ba := a) (cap := cap) (by rw [hlen]) hcr ?_
          rcases hr with hr | hr
          · left; apply List.eq_nil_of_length_eq_zero; omega
          · exact Or.inr hr.1
        · simp at hs
      · simp at hs
    · simp at hs
  · rename_i ho
    unfold AV.asTree at hs
    split at hs
    · rename_i s es'
      split at hs
      · rename_i hss; subst hss
        injection hs with hs; subst hs
        simp only [CA, CT] at hx
        obtain ⟨a, cap, rfl, hle, hr⟩ := hx
        rcases hr with hr | ⟨b, o, ha, hA, hr⟩
        · subst hr
          exact rows (b := 0) (o := 0) rfl (by simp only [CRows]) (Or.inl rfl)
        · exact rows rfl hr (Or.inr ha)
      · simp at hs
    · injection hs with hs; subst hs
      have := (ca_v hx).1; subst this
      exact rows (b := 0) (o := 0) rfl (by simp only [CRows]) (Or.inl rfl)
    · simp at hs

theorem run_append {t u e e2 ty : TypeId} {i : TypeInfo} {zv : Value} (hu : P.underlying t = some (.slice e)) (hu2 : P.underlying u = some (.slice e2)) (hi : P.info? e = some i) (hz : ∀ w, (zeroValue e).run P w = .ok zv w)
    {ba bx : Option Addr} {len cap n cx : Nat} {olds vals : List Value} (ho : (Builtin.firstCells i.size len (.slice ba len cap)).run P w = .ok olds.toArray w) (hv : (Builtin.firstCells i.size n (.slice bx n cx)).run P w = .ok vals.toArray w)
    (hv' : (Builtin.firstCells i.size n (.slice bx n cx)).run P w.drew = .ok vals.toArray w.drew) (ho' : (Builtin.firstCells i.size len (.slice ba len cap)).run P w.drew = .ok olds.toArray w.drew)
    (hb : (len + n) * i.bytes ≤ 2 ^ 47) (more : Array TypeId) (vs : Array Value) (hm0 : more[0]? = some t) (hm1 : more[1]? = some u) (hv0 : vs[0]? = some (.slice ba len cap)) (hv1 : vs[1]? = some (.slice bx n cx)) (hbytes : 0 < i.bytes) :
    (len + n ≤ cap → ∀ w', (match ba with | some a => (storeCells (a.add (len * i.size)) vals).run P w | none => .ok () w) = .ok () w' → (Builtin.append_ more ty vs).run P w = .ok (.slice ba (len + n) cap) w') ∧
    (cap < len + n → ∃ nc, len + n ≤ nc ∧ (Builtin.append_ more ty vs).run P w = .ok (.slice (some ⟨w.heap.size, 0, none⟩) (len + n) nc) (w.drew.alloc (.cells (olds.toArray ++ vals.toArray ++ Builtin.zeroCells zv.cells (nc - (len + n))) e))) := by
  have hsz : sizeT P e = some i.size := by simp [sizeT, hi]
  constructor
  · intro hle w' hst
    simp only [Builtin.append_, hm0, hv0, hv1, hm1, Sem.run_bind, run_underlying hu, run_underlying hu2, Result.andThen_ok, run_sizeOf hsz, Sem.run_pure, Bool.false_eq_true, if_false, Builtin.lenOf, if_pos hle, Bool.not_false, if_true, hv]
    cases ba with
    | none => simp only at hst; injection hst with h1 h2; subst h2; simp
    | some a => simp only at hst; simp [hst]
  · intro hlt
    have hbig : ¬ (Builtin.nextslicecap (len + n) cap * i.bytes > 2 ^ 48) := by
      have := growslice_fits (need := len + n) (old := cap) (bytes := i.bytes) hlt (by omega)
      omega
    have hb0 : i.bytes ≠ 0 := by omega
    refine ⟨Question.cut (.appendCap (len + n) cap e) (w.tape w.drawn (.appendCap (len + n) cap e)), by simp [Question.cut], ?_⟩
    simp only [Builtin.append_, hm0, hv0, hv1, hm1, Sem.run_bind, run_underlying hu, run_underlying hu2, Result.andThen_ok, run_sizeOf hsz, Sem.run_pure, Bool.false_eq_true, if_false, Builtin.lenOf, if_neg (Nat.not_le.2 hlt), Bool.not_false, if_true, typeInfo, run_program, hi, hb0, false_or, and_false, run_choose, Question.forced]
    rw [if_neg hbig]
    simp only [Sem.run_bind, Sem.run_pure, Result.andThen_ok, run_choose, Question.forced, Bool.false_eq_true, if_false, run_askRoom, World.drew_eq, run_program, hi, ho', hv', hz, newRow, run_newObj]
    rfl

theorem Did.from {E : Env} {F : Frm} {sto sto1 : Nat → Option Ob} {A A' : Nat → Prop} {φ φ' : Nat → Nat} {w w' : World} {x : AV} {v : Value} {sto' : Nat → Option Ob} (h : Did E F sto1 A φ w x v sto' w' A' φ') (hs : ∀ i, (sto i).isSome = true → (sto1 i).isSome = true) :
    Did E F sto A φ w x v sto' w' A' φ' := ⟨h.rs, h.go, fun i hi => h.ph i (hs i hi), fun i hi => h.mo i (hs i hi), h.ca, h.nd⟩

theorem goes_drew_alloc (h : RS E F sto w A φ) (o : Obj) : Goes A A w (w.drew.alloc o) := (goes_drew A w).trans (goes_new h.drew o)

/-- Append into a new row. -/
theorem app_grow (h : RS E F sto w A φ) {id sz : Nat} (hn : isFresh sto id = true) {es new : List (List T)} {olds vals : List Value} (e : TypeId) {nc : Nat} {zc : Array Value} (hzc : zc.size = sz)
    (ho1 : CAs A φ w (es.flatten.map .t) olds) (ho2 : ∀ e ∈ es, e.length = sz) (ho3 : olds.length = es.length * sz)
    (hv1 : CAs A φ w (new.flatten.map .t) vals) (hv2 : ∀ e ∈ new, e.length = sz) (hv3 : vals.length = new.length * sz) (hnc : es.length + new.length ≤ nc) :
    Did E F sto A φ w (.own id sz 0 (es.length + new.length) true) (.slice (some ⟨w.heap.size, 0, none⟩) (es.length + new.length) nc) (applyWr sto [(id, .row sz true (es ++ new))])
      (w.drew.alloc (.cells (olds.toArray ++ vals.toArray ++ Builtin.zeroCells zc (nc - (es.length + new.length))) e)) A (upd φ id w.heap.size) := by
  have hd := h.drew
  have hca : CAs A φ w.drew ((es ++ new).flatten.map .t) (olds ++ vals) := by
    rw [List.flatten_append, List.map_append]
    exact (CAs.goes (goes_drew A w) _ _ (fun _ _ => rfl) ho1).append (CAs.goes (goes_drew A w) _ _ (fun _ _ => rfl) hv1)
  have hlen : (olds ++ vals).length = (es.length + new.length) * sz := by rw [List.length_append, ho3, hv3, Nat.add_mul]
  have hsize : nc * sz ≤ (olds.toArray ++ vals.toArray ++ Builtin.zeroCells zc (nc - (es.length + new.length))).size := by
    rw [Array.size_append, size_zeroCells, hzc]
    have : (olds.toArray ++ vals.toArray).size = (es.length + new.length) * sz := by simpa using hlen
    rw [this, ← Nat.add_mul]
    exact Nat.mul_le_mul_right _ (by omega)
  have hr := new_row hd hn (sz := sz) (es := es ++ new) (ys := olds.toArray ++ vals.toArray ++ Builtin.zeroCells zc (nc - (es.length + new.length))) e (len := es.length + new.length) (cap := nc) (by simp) hnc hsize
    (fun x hx => by
      rcases List.mem_append.1 hx with hx | hx
      · exact ho2 x hx
      · exact hv2 x hx)
    (by
      have : ((olds.toArray ++ vals.toArray ++ Builtin.zeroCells zc (nc - (es.length + new.length))).toList.take ((es.length + new.length) * sz)) = olds ++ vals := by
        simp only [Array.toList_append]
        rw [List.take_left' hlen]
      rw [this]; exact hca)
  exact ⟨hr.rs, (goes_drew A w).trans hr.go, hr.ph, hr.mo, hr.ca, hr.nd⟩

/-- Append to nothing. -/
theorem app_nil (h : RS E F sto w A φ) {t u e e2 ty : TypeId} {i : TypeInfo} {z : List T} (hu : P.underlying t = some (.slice e)) (hu2 : P.underlying u = some (.slice e2)) (hi : P.info? e = some i) (hz : zeroT P e = some z) (hzl : z.length = i.size)
    {bx : Option Addr} {cx : Nat} {new : List (List T)} {vals : List Value}
    (hv1 : CAs A φ w (new.flatten.map .t) vals) (hv2 : ∀ e ∈ new, e.length = i.size) (hv3 : vals.length = new.length * i.size) (hv4 : vals = [] ∨ ∃ b o, bx = some ⟨b, o, none⟩ ∧ ∀ (j : Nat) v, vals[j]? = some v → w.cell? ⟨b, o + j, none⟩ = some v)
    (hb : new.length * i.bytes ≤ 2 ^ 47) (hbytes : 0 < i.bytes) (more : Array TypeId) (vs : Array Value) (hm0 : more[0]? = some t) (hm1 : more[1]? = some u)
    (hw0 : vs[0]? = some (.slice none 0 0)) (hw1 : vs[1]? = some (.slice bx new.length cx)) {id : Nat} (hn : isFresh sto id = true) :
    ∃ v w' φ', (Builtin.append_ more ty vs).run P w = .ok v w' ∧ Did E F sto A φ w (.own id i.size 0 new.length (!new.isEmpty)) v (applyWr sto [(id, .row i.size (!new.isEmpty) new)]) w' A φ' := by
  obtain ⟨zv, z1, z2, z3, z4⟩ := zero_ok hz
  have hzc : zv.cells.size = i.size := by rw [← hzl, z4]; simp
  have ho : ∀ w : World, (Builtin.firstCells i.size 0 (.slice none 0 0)).run P w = .ok ([] : List Value).toArray w := fun w => run_first (by simp) (Or.inl rfl)
  have hvr : (Builtin.firstCells i.size new.length (.slice bx new.length cx)).run P w = .ok vals.toArray w := run_first hv3 hv4
  have hvr' : (Builtin.firstCells i.size new.length (.slice bx new.length cx)).run P w.drew = .ok vals.toArray w.drew := run_first hv3 hv4
  obtain ⟨r1, r2⟩ := run_append (P := P) (ty := ty) (w := w) hu hu2 hi z1 (ho w) hvr hvr' (ho w.drew) (by simpa using hb) more vs hm0 hm1 hw0 hw1 hbytes
  cases new with
  | nil =>
    have := r1 (by simp) w rfl
    refine ⟨_, w, φ, this, (h.virt (isFresh_none hn)), Goes.refl A w, fun _ _ => rfl, fun j hj => applyWr_mono hj, ?_, ?_⟩
    · simp only [CA]; exact ⟨none, 0, by simp, by simp, by simp, Or.inl rfl⟩
    · intro k hk; simp [AV.ids] at hk; subst hk; simp [applyWr]
  | cons n ns =>
    obtain ⟨nc, hnc, hrun⟩ := r2 (by simp)
    have hg := app_grow h hn (es := []) (new := n :: ns) (olds := []) (vals := vals) e (nc := nc) hzc (by simp [CAs]) (by simp) (by simp) hv1 hv2 hv3 (by simpa using hnc)
    simp only [List.length_nil, Nat.zero_add, List.nil_append] at hg hrun
    exact ⟨_, _, _, hrun, hg⟩

/-- Append to a row of one's own. -/
theorem app_own (h : RS E F sto w A φ) {t u e e2 ty : TypeId} {i : TypeInfo} {z : List T} (hu : P.underlying t = some (.slice e)) (hu2 : P.underlying u = some (.slice e2)) (hi : P.info? e = some i) (hz : zeroT P e = some z) (hzl : z.length = i.size)
    {bx : Option Addr} {cx : Nat} {new es : List (List T)} {vals : List Value} {j : Nat} {r : Bool} {sv : Value} (hj : sto j = some (.row i.size r es)) (hj100 : 100 ≤ j) (hs : CA A φ w (.own j i.size 0 es.length r) sv)
    (hv1 : CAs A φ w (new.flatten.map .t) vals) (hv2 : ∀ e ∈ new, e.length = i.size) (hv3 : vals.length = new.length * i.size) (hv4 : vals = [] ∨ ∃ b o, bx = some ⟨b, o, none⟩ ∧ ∀ (j : Nat) v, vals[j]? = some v → w.cell? ⟨b, o + j, none⟩ = some v)
    (hb : (es.length + new.length) * i.bytes ≤ 2 ^ 47) (hbytes : 0 < i.bytes) (more : Array TypeId) (vs : Array Value) (hm0 : more[0]? = some t) (hm1 : more[1]? = some u)
    (hw0 : vs[0]? = some sv) (hw1 : vs[1]? = some (.slice bx new.length cx)) {id : Nat} (hn : isFresh sto id = true) :
    ∃ v w' φ', (Builtin.append_ more ty vs).run P w = .ok v w' ∧ Did E F sto A φ w (.own id i.size 0 (es.length + new.length) (r || !new.isEmpty)) v (applyWr sto [(j, .dead), (id, .row i.size (r || !new.isEmpty) (es ++ new))]) w' A φ' := by
  obtain ⟨zv, z1, z2, z3, z4⟩ := zero_ok hz
  have hzc : zv.cells.size = i.size := by rw [← hzl, z4]; simp
  have hn' : sto id = none := isFresh_none hn
  have hjid : j ≠ id := fun e => by rw [e, hn'] at hj; cases hj
  have hst : slTrees i.size sto (.own j i.size 0 es.length r) = some es := by simp [slTrees, AV.asOwn, rowPart, hj]
  obtain ⟨ba, cap, olds, hsv, ho1, ho2, ho3, ho4⟩ := slTrees_ok h hst hs
  subst hsv
  have ho : ∀ w' : World, w'.heap = w.heap → (Builtin.firstCells i.size es.length (.slice ba es.length cap)).run P w' = .ok olds.toArray w' := fun w' hw' => run_first ho3 (by
    rcases ho4 with ho4 | ⟨b, o, hb, hc⟩
    · exact Or.inl ho4
    · exact Or.inr ⟨b, o, hb, fun k v hv => by have := hc k v hv; simp only [World.cell?, hw'] at this ⊢; exact this⟩)
  have hv : ∀ w' : World, w'.heap = w.heap → (Builtin.firstCells i.size new.length (.slice bx new.length cx)).run P w' = .ok vals.toArray w' := fun w' hw' => run_first hv3 (by
    rcases hv4 with ho4 | ⟨b, o, hb, hc⟩
    · exact Or.inl ho4
    · exact Or.inr ⟨b, o, hb, fun k v hv => by have := hc k v hv; simp only [World.cell?, hw'] at this ⊢; exact this⟩)
  obtain ⟨r1, r2⟩ := run_append (P := P) (ty := ty) (w := w) hu hu2 hi z1 (ho w rfl) (hv w rfl) (hv w.drew rfl) (ho w.drew rfl) hb more vs hm0 hm1 hw0 hw1 hbytes
  have hk := h.kill hj
  have hn1 : isFresh (upd sto j (some .dead)) id = true := by unfold isFresh at hn ⊢; rw [upd_ne _ _ (Ne.symm hjid)]; exact hn
  have hmo : ∀ k, (sto k).isSome = true → ((upd sto j (some .dead)) k).isSome = true := fun k hk => by unfold upd; split <;> simp [hk]
  have hne : ∀ k, (sto k).isSome = true → k ≠ id := fun k hk e => by rw [e, hn'] at hk; simp at hk
  simp only [CA] at hs
  obtain ⟨a', cap', he, hle, hrf, hroom⟩ := hs
  injection he with he1 he2 he3; subst he1; subst he3
  by_cases hgrow : cap < es.length + new.length
  · obtain ⟨nc, hnc, hrun⟩ := r2 hgrow
    have hg := (app_grow hk hn1 (es := es) (new := new) (olds := olds) (vals := vals) e (nc := nc) hzc ho1 ho2 ho3 hv1 hv2 hv3 hnc).from hmo
    have hne0 : new ≠ [] := by intro h0; subst h0; simp at hgrow; omega
    have e1 : (r || !new.isEmpty) = true := by cases new with | nil => exact absurd rfl hne0 | cons => simp
    rw [e1]
    exact ⟨_, _, _, hrun, hg⟩
  · by_cases h0 : new = []
    · -- nothing is appended
      subst h0
      have hvn : vals = [] := List.eq_nil_of_length_eq_zero (by simpa using hv3)
      subst hvn
      have hst : (match ba with | some a => (storeCells (a.add (es.length * i.size)) []).run P w | none => .ok () w) = .ok () w := by cases ba <;> simp [storeCells]
      have hrun := r1 (by simpa using hle) w hst
      simp only [List.length_nil, Nat.add_zero, List.isEmpty_nil, Bool.not_true, Bool.or_false, List.append_nil] at hrun ⊢
      cases r with
      | false =>
        have hes : es = [] := by have := h.obj j _ hj; simp only [CO] at this; exact this.1 trivial
        subst hes
        refine ⟨_, w, φ, hrun, hk.virt (isFresh_none hn1), Goes.refl A w, fun _ _ => rfl, fun k hk => applyWr_mono hk, ?_, ?_⟩
        · simp only [CA]; exact ⟨ba, cap, rfl, hle, fun _ => hrf rfl, Or.inl (hrf rfl)⟩
        · intro k hk; simp [AV.ids] at hk; subst hk; simp [applyWr]
      | true =>
        have hl := h.liv j _ hj rfl
        have hF : F.w.heap.size ≤ φ j := by
          rcases hl.2.2 with ⟨hio, _⟩ | hl
          · have := h.ioc j hio; omega
          · exact hl
        have hco := h.obj j _ hj
        refine ⟨_, w, upd φ id (φ j), hrun, hk.adopt (isFresh_none hn1) (isFresh_ge hn) hl.1 hl.2.1 hF (fun k o ho hlv hk => ?_) rfl ?_, Goes.refl A w, fun k hk => upd_ne _ _ (hne k hk), fun k hk => applyWr_mono hk, ?_, ?_⟩
        · by_cases hkj : k = j
          · subst hkj; simp at ho; subst ho; simp [Ob.live] at hlv
          · rw [upd_ne _ _ hkj] at ho
            exact h.inj k j o _ ho hj hlv rfl hkj hk
        · simp only [CO] at hco ⊢; exact hco
        · simp only [CA, upd_same]
          exact ⟨ba, cap, rfl, hle, by simp, by simpa using hroom⟩
        · intro k hk; simp [AV.ids] at hk; subst hk; simp [applyWr]
    · -- within the room
      have hnl : 0 < new.length := List.length_pos_iff.2 h0
      have hcap : cap ≠ 0 := by omega
      have hrt : r = true := by cases r with | true => rfl | false => exact absurd (hrf rfl) hcap
      subst hrt
      rcases hroom with hroom | ⟨hba, hrc⟩
      · exact absurd hroom hcap
      rw [Nat.zero_mul] at hba
      subst hba
      have hl := h.liv j _ hj rfl
      have hF : F.w.heap.size ≤ φ j := by
        rcases hl.2.2 with ⟨hio, _⟩ | hl
        · have := h.ioc j hio; omega
        · exact hl
      have hco := h.obj j _ hj
      simp only [CO] at hco
      obtain ⟨⟨ys, et, hheap⟩, hrows⟩ := hco.2 trivial
      obtain ⟨ys2, et2, hheap2, hfit⟩ := hrc
      rw [hheap] at hheap2; injection hheap2 with hh; injection hh with hh1 hh2; subst hh1
      rw [Nat.zero_add] at hfit
      have hfit2 : es.length * i.size + vals.length ≤ ys.size := by
        rw [hv3, ← Nat.add_mul]
        exact Nat.le_trans (Nat.mul_le_mul_right _ (by omega)) hfit
      have v1 : ∀ v ∈ vals, v.oneCell' = true := fun v hv => by
        obtain ⟨x, hx, hc⟩ := CAs.mem hv1 v hv
        obtain ⟨c, _, rfl⟩ := List.mem_map.1 hx
        simp only [CA] at hc; exact CT.oneCell hc
      have hstore := run_storeCells_at P (φ j) (es.length * i.size) et vals 0 ys w hheap (by simpa using hfit2) v1
      have hrun := r1 (by omega) _ (by simp only [addr_add, Nat.zero_add]; exact hstore)
      have hsp : (ys.toList.take (es.length * i.size + 0) ++ vals ++ ys.toList.drop (es.length * i.size + 0 + vals.length)) = splice ys.toList (es.length * i.size) vals := by simp [splice]
      rw [hsp] at hrun
      have hlen : (splice ys.toList (es.length * i.size) vals).toArray.size = ys.size := by
        simp only [List.size_toArray]; rw [splice_length (by simpa using hfit2)]; simp
      have hg : Goes A A w (w.setRow (φ j) (splice ys.toList (es.length * i.size) vals).toArray) := goes_setRow hheap hlen hl.1
      have hnew := setRow_heap w (φ j) ys (splice ys.toList (es.length * i.size) vals).toArray et (0, 0) hheap
      have hlo : ∀ k, k < es.length * i.size → (w.setRow (φ j) (splice ys.toList (es.length * i.size) vals).toArray).cell? ⟨φ j, k, none⟩ = w.cell? ⟨φ j, k, none⟩ := fun k hk => by
        rw [cell_of_heap_get hnew, cell_of_heap_get hheap, List.getElem?_toArray, splice_get_lo (by simpa using hfit2) hk]; simp
      have hmid : ∀ q u, vals[q]? = some u → (w.setRow (φ j) (splice ys.toList (es.length * i.size) vals).toArray).cell? ⟨φ j, es.length * i.size + q, none⟩ = some u := fun q u hu => by
        have hq := (List.getElem?_eq_some_iff.1 hu).1
        rw [cell_of_heap_get hnew, List.getElem?_toArray, splice_get_mid (by simpa using hfit2) (by omega) (by omega), Nat.add_sub_cancel_left]; exact hu
      have hrow : CRows A (w.setRow (φ j) (splice ys.toList (es.length * i.size) vals).toArray) i.size (φ j) 0 (es ++ new) := by
        rw [CRows.append]
        refine ⟨CRows.congr hg.keeps (fun k hk => by rw [Nat.zero_add]; exact hlo k hk) hrows, CRows.of hv2 (CCells.of hg hv1 fun q u hu => ?_)⟩
        rw [Nat.zero_add]; exact hmid q u hu
      have hw := h.write (ob := .row i.size true (es ++ new)) hj rfl hheap hlen (fun k hk => by simp [Ob.ids] at hk) (by simp only [CO]; exact ⟨by simp, fun _ => ⟨⟨_, et, hnew⟩, hrow⟩⟩)
      have hk2 := hw.kill (id := j) (o0 := .row i.size true (es ++ new)) (by simp)
      have hupd : upd (upd sto j (some (.row i.size true (es ++ new)))) j (some .dead) = upd sto j (some .dead) := by
        funext k; unfold upd; split <;> rfl
      rw [hupd] at hk2
      refine ⟨_, _, upd φ id (φ j), hrun, ?_, hg, fun k hk => upd_ne _ _ (hne k hk), fun k hk => applyWr_mono hk, ?_, ?_⟩
      · simp only [Bool.true_or, applyWr]
        refine hk2.adopt (isFresh_none hn1) (isFresh_ge hn) hl.1 (by rw [setRow_size]; exact hl.2.1) hF (fun k o ho hlv hk => ?_) rfl ?_
        · by_cases hkj : k = j
          · subst hkj; simp at ho; subst ho; simp [Ob.live] at hlv
          · rw [upd_ne _ _ hkj] at ho
            exact h.inj k j o _ ho hj hlv rfl hkj hk
        · simp only [CO]; exact ⟨by simp, fun _ => ⟨⟨_, et, hnew⟩, hrow⟩⟩
      · simp only [CA, upd_same, Bool.true_or]
        exact ⟨_, cap, rfl, by omega, by simp, Or.inr ⟨by simp, _, et, hnew, by rw [hlen, Nat.zero_add]; exact hfit⟩⟩
      · intro k hk; simp [AV.ids] at hk; subst hk; simp [applyWr]

theorem sim_app {G : Nat → Option (List T)} {st : St} {n : Nat} {a : Act} (hG : GOK E G) (h : RS E F st.sto w A φ) (r : RE st n a w A φ) {args : Array Operand} {ts : Array TypeId} {ty : TypeId} {so : SOp} (hs : slimOp P G (.call ⟨.builtin .append, args, ts⟩) = some so) {id : Nat} {x : AV} {wr : List (Nat × Ob)}
    (hc : core id so (·.ev st.env) st.sto = some (x, wr)) :
    ∃ v w' φ', (Builtin.append_ ts ty (args.map a.eval)).run P w = .ok v w' ∧ Did E F st.sto A φ w x v (applyWr st.sto wr) w' A φ' := by
  simp only [slimOp] at hs
  split at hs
  · rename_i t u s xo ht0 ht1 ha0 ha1
    split at hs
    · rename_i e e2 hu hu2
      split at hs
      · rename_i i z ss xs hi hz hss hxs
        split at hs
        · rename_i hcond
          obtain ⟨hzl, hz0, hby⟩ := hcond
          injection hs with hs; subst hs
          have evs := ev_ok hG h r hss
          have evx := ev_ok hG h r hxs
          have hw0 : (args.map a.eval)[0]? = some (a.eval s) := by simp [ha0]
          have hw1 : (args.map a.eval)[1]? = some (a.eval xo) := by simp [ha1]
          simp only [core] at hc
          split at hc
          · rename_i new hnew
            obtain ⟨bx, cx, vals, hxv, hv1, hv2, hv3, hv4⟩ := slTrees_ok h hnew evx.1
            rw [hxv] at hw1
            split at hc
            · rename_i j s' off len r' hown
              have eown := AV.asOwn_eq hown
              split at hc
              · rename_i s'' rr es hj
                split at hc
                · rename_i hcnd
                  obtain ⟨c1, c2, c3, c4, c5, c6, c7, c8, c9⟩ := hcnd
                  subst c2; subst c3; subst c4; subst c5; subst c6
                  simp only [Option.some.injEq, Prod.mk.injEq] at hc
                  obtain ⟨rfl, rfl⟩ := hc
                  have hsv := evs.1; rw [eown] at hsv
                  exact app_own h hu hu2 hi hz hzl hj c1 hsv hv1 hv2 hv3 hv4 c7 hby ts _ ht0 ht1 hw0 hw1 c9
                · simp at hc
              · simp at hc
            · split at hc
              · rename_i hcnd
                obtain ⟨c1, c2, c3, c4⟩ := hcnd
                simp only [Option.some.injEq, Prod.mk.injEq] at hc
                obtain ⟨rfl, rfl⟩ := hc
                have hnil : ss.ev st.env = .t (.v (.slice none 0 0)) := by
                  unfold AV.isNil at c1
                  split at c1
                  · assumption
                  · simp at c1
                have hsv := evs.1; rw [hnil] at hsv
                rw [(ca_v hsv).1] at hw0
                exact app_nil h hu hu2 hi hz hzl hv1 hv2 hv3 hv4 c2 hby ts _ ht0 ht1 hw0 hw1 c4
              · simp at hc
          · simp at hc
        · simp at hs
      · simp at hs
    · simp at hs
  · simp at hs

end
end Go.Sx
