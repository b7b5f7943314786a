/- Plain trees, abstract values, and how they stand for the machine's values. No statement of a seat is proved here. -/
import Derived.WalkKit
set_option linter.unusedSimpArgs false
set_option linter.unusedVariables false
namespace Go.Sx

/-- A plain tree: one cell's value that holds no memory, or a slice read whole (each element as its cells). -/
inductive T where
  | v (x : Value)
  | sl (sz : Nat) (es : List (List T))
  deriving Inhabited

mutual
/-- A tree stands for a cell's value; 'A': the blocks that are never written again. -/
def CT (A : Nat → Prop) (w : World) : T → Value → Prop
  | .v x, y => y = x ∧ x.oneCell' = true
  | .sl sz es, y => ∃ a cap, y = .slice a es.length cap ∧ es.length ≤ cap ∧ (es = [] ∨ ∃ b o, a = some ⟨b, o, none⟩ ∧ A b ∧ CRows A w sz b o es)
def CRows (A : Nat → Prop) (w : World) (sz : Nat) (b : Nat) : Nat → List (List T) → Prop
  | _, [] => True
  | o, e :: es => (e.length = sz ∧ CCells A w b o e) ∧ CRows A w sz b (o + sz) es
def CCells (A : Nat → Prop) (w : World) (b : Nat) : Nat → List T → Prop
  | _, [] => True
  | o, c :: cs => (∃ y, w.cell? ⟨b, o, none⟩ = some y ∧ CT A w c y) ∧ CCells A w b (o + 1) cs
end

/-- w' holds all that w holds in the blocks of A, and A' takes in A. -/
def Keeps (A A' : Nat → Prop) (w w' : World) : Prop := ∀ b, A b → A' b ∧ w'.heap[b]? = w.heap[b]?

theorem cell_of_heap {w w' : World} {b : Nat} (h : w'.heap[b]? = w.heap[b]?) (o : Nat) : w'.cell? ⟨b, o, none⟩ = w.cell? ⟨b, o, none⟩ := by
  simp only [World.cell?, h]

mutual
theorem CT.keeps {A A' : Nat → Prop} {w w' : World} (h : Keeps A A' w w') : ∀ (x : T) (y : Value), CT A w x y → CT A' w' x y
  | .v _, _, hx => by simpa only [CT] using hx
  | .sl sz es, y, hx => by
    simp only [CT] at hx ⊢
    obtain ⟨a, cap, rfl, hc, hr⟩ := hx
    refine ⟨a, cap, rfl, hc, ?_⟩
    rcases hr with hr | ⟨b, o, ha, hA, hr⟩
    · exact Or.inl hr
    · exact Or.inr ⟨b, o, ha, (h b hA).1, CRows.keeps h (h b hA).2 sz o es hr⟩
theorem CRows.keeps {A A' : Nat → Prop} {w w' : World} (h : Keeps A A' w w') {b : Nat} (hb : w'.heap[b]? = w.heap[b]?) (sz : Nat) : ∀ (o : Nat) (es : List (List T)), CRows A w sz b o es → CRows A' w' sz b o es
  | _, [], _ => by simp only [CRows]
  | o, e :: es, hx => by
    simp only [CRows] at hx ⊢
    exact ⟨⟨hx.1.1, CCells.keeps h hb o e hx.1.2⟩, CRows.keeps h hb sz _ es hx.2⟩
theorem CCells.keeps {A A' : Nat → Prop} {w w' : World} (h : Keeps A A' w w') {b : Nat} (hb : w'.heap[b]? = w.heap[b]?) : ∀ (o : Nat) (cs : List T), CCells A w b o cs → CCells A' w' b o cs
  | _, [], _ => by simp only [CCells]
  | o, c :: cs, hx => by
    simp only [CCells] at hx ⊢
    obtain ⟨⟨y, hy, hc⟩, hr⟩ := hx
    exact ⟨⟨y, by rw [cell_of_heap hb]; exact hy, CT.keeps h c y hc⟩, CCells.keeps h hb _ cs hr⟩
end

theorem CT.oneCell {A : Nat → Prop} {w : World} : ∀ {x : T} {y : Value}, CT A w x y → y.oneCell' = true
  | .v _, _, h => by simp only [CT] at h; rw [h.1]; exact h.2
  | .sl _ _, _, h => by simp only [CT] at h; obtain ⟨a, c, rfl, _⟩ := h; rfl

theorem CCells.get {A : Nat → Prop} {w : World} {b : Nat} : ∀ {cs : List T} {o : Nat}, CCells A w b o cs → ∀ {i : Nat} {c : T}, cs[i]? = some c → ∃ y, w.cell? ⟨b, o + i, none⟩ = some y ∧ CT A w c y
  | [], _, _, _, _, h => by simp at h
  | c :: cs, o, hx, 0, d, h => by simp only [CCells] at hx; simp at h; subst h; simpa using hx.1
  | c :: cs, o, hx, i + 1, d, h => by
    simp only [CCells] at hx
    have := CCells.get hx.2 (i := i) (c := d) (by simpa using h)
    rwa [show o + 1 + i = o + (i + 1) from by omega] at this

theorem CCells.drop {A : Nat → Prop} {w : World} {b : Nat} : ∀ {cs : List T} {o : Nat} (_ : CCells A w b o cs) (i : Nat), CCells A w b (o + i) (cs.drop i)
  | _, _, hx, 0 => by simpa using hx
  | [], _, _, i + 1 => by simp only [List.drop_nil, CCells]
  | c :: cs, o, hx, i + 1 => by
    simp only [CCells] at hx
    have := CCells.drop hx.2 i
    rw [show o + 1 + i = o + (i + 1) from by omega] at this
    simpa using this

theorem CCells.append {A : Nat → Prop} {w : World} {b : Nat} : ∀ {cs ds : List T} {o : Nat}, CCells A w b o (cs ++ ds) ↔ CCells A w b o cs ∧ CCells A w b (o + cs.length) ds
  | [], ds, o => by simp [CCells]
  | c :: cs, ds, o => by
    simp only [List.cons_append, CCells, CCells.append (cs := cs) (ds := ds) (o := o + 1), List.length_cons]
    rw [show o + 1 + cs.length = o + (cs.length + 1) from by omega]
    simp only [and_assoc]

theorem CRows.append {A : Nat → Prop} {w : World} {sz b : Nat} : ∀ {cs ds : List (List T)} {o : Nat}, CRows A w sz b o (cs ++ ds) ↔ CRows A w sz b o cs ∧ CRows A w sz b (o + cs.length * sz) ds
  | [], ds, o => by simp [CRows]
  | c :: cs, ds, o => by
    simp only [List.cons_append, CRows, CRows.append (cs := cs) (ds := ds) (o := o + sz), List.length_cons]
    rw [show o + sz + cs.length * sz = o + (cs.length + 1) * sz from by rw [Nat.add_mul]; omega]
    simp only [and_assoc]

theorem CRows.get {A : Nat → Prop} {w : World} {sz b : Nat} : ∀ {es : List (List T)} {o : Nat}, CRows A w sz b o es → ∀ {i : Nat} {e : List T}, es[i]? = some e → e.length = sz ∧ CCells A w b (o + i * sz) e
  | [], _, _, _, _, h => by simp at h
  | c :: cs, o, hx, 0, d, h => by simp only [CRows] at hx; simp at h; subst h; simpa using hx.1
  | c :: cs, o, hx, i + 1, d, h => by
    simp only [CRows] at hx
    have := CRows.get hx.2 (i := i) (e := d) (by simpa using h)
    rwa [show o + sz + i * sz = o + (i + 1) * sz from by rw [Nat.add_mul]; omega] at this

theorem CRows.drop {A : Nat → Prop} {w : World} {sz b : Nat} : ∀ {es : List (List T)} {o : Nat} (_ : CRows A w sz b o es) (i : Nat), CRows A w sz b (o + i * sz) (es.drop i)
  | _, _, hx, 0 => by simpa using hx
  | [], _, _, i + 1 => by simp only [List.drop_nil, CRows]
  | c :: cs, o, hx, i + 1 => by
    simp only [CRows] at hx
    have := CRows.drop hx.2 i
    rw [show o + sz + i * sz = o + (i + 1) * sz from by rw [Nat.add_mul]; omega] at this
    simpa using this

theorem CRows.take {A : Nat → Prop} {w : World} {sz b : Nat} : ∀ {es : List (List T)} {o : Nat} (_ : CRows A w sz b o es) (i : Nat), CRows A w sz b o (es.take i)
  | _, _, hx, 0 => by simp only [List.take_zero, CRows]
  | [], _, _, i + 1 => by simp only [List.take_nil, CRows]
  | c :: cs, o, hx, i + 1 => by
    simp only [CRows] at hx
    simp only [List.take_succ_cons, CRows]
    exact ⟨hx.1, CRows.take hx.2 i⟩

theorem CRows.flatten {A : Nat → Prop} {w : World} {sz b : Nat} : ∀ {es : List (List T)} {o : Nat} (_ : CRows A w sz b o es), CCells A w b o es.flatten ∧ es.flatten.length = es.length * sz
  | [], _, _ => by simp [CCells]
  | c :: cs, o, hx => by
    simp only [CRows] at hx
    have ih := CRows.flatten hx.2
    simp only [List.flatten_cons, CCells.append, List.length_append, List.length_cons]
    rw [hx.1.1]
    exact ⟨⟨hx.1.2, ih.1⟩, by rw [ih.2, Nat.add_mul]; omega⟩

/-- An abstract value: a tree; a struct or an array by its cells; several results; a pointer into an object of the abstract store, or into memory that is never written again; a slice of an object; a function value. -/
inductive AV where
  | t (x : T)
  | ag (cs : List AV)
  | tp (vs : List AV)
  | ptr (id off : Nat)
  | ept (id sz i off : Nat)
  | ipt (cs : List T)
  | own (id sz off len : Nat) (r : Bool)
  | fn (f : FuncId) (first caps : List AV)
  | undef
  deriving Inhabited

/-- Block b is a row of at least n cells, none of them frozen. -/
def RowCap (w : World) (b n : Nat) : Prop := ∃ cs e, w.heap[b]? = some (.cells cs e (0, 0)) ∧ n ≤ cs.size

mutual
def CA (A : Nat → Prop) (φ : Nat → Nat) (w : World) : AV → Value → Prop
  | .t x, y => CT A w x y
  | .ag cs, y => ∃ ys, y = .agg ys ∧ CAs A φ w cs ys.toList
  | .tp vs, y => ∃ ys, y = .tuple ys ∧ CAs A φ w vs ys.toList
  | .ptr id off, y => y = .pointer (some ⟨φ id, off, none⟩)
  | .ept id sz i off, y => y = .pointer (some ⟨φ id, i * sz + off, none⟩)
  | .ipt cs, y => ∃ b o, y = .pointer (some ⟨b, o, none⟩) ∧ A b ∧ CCells A w b o cs
  | .own id sz off len r, y => ∃ a cap, y = .slice a len cap ∧ len ≤ cap ∧ (r = false → cap = 0) ∧ (cap = 0 ∨ (a = some ⟨φ id, off * sz, none⟩ ∧ RowCap w (φ id) ((off + cap) * sz)))
  | .fn f first caps, y => ∃ us ys, y = .func (.func f) us ys ∧ CAs A φ w first us.toList ∧ CAs A φ w caps ys.toList
  | .undef, _ => True
def CAs (A : Nat → Prop) (φ : Nat → Nat) (w : World) : List AV → List Value → Prop
  | [], ys => ys = []
  | x :: xs, ys => ∃ z zs, ys = z :: zs ∧ CA A φ w x z ∧ CAs A φ w xs zs
end

/-- What the steps of a run keep: the blocks of A as they were; rows of cells stay rows of as many cells, unfrozen where they were; φ agrees on the ids that are met. -/
structure Goes (A A' : Nat → Prop) (w w' : World) : Prop where
  keeps : Keeps A A' w w'
  cap : ∀ b n, RowCap w b n → RowCap w' b n

theorem Goes.refl (A : Nat → Prop) (w : World) : Goes A A w w := ⟨fun _ h => ⟨h, rfl⟩, fun _ _ h => h⟩
theorem Goes.trans {A B C : Nat → Prop} {u v w : World} (h : Goes A B u v) (k : Goes B C v w) : Goes A C u w :=
  ⟨fun b hb => ⟨(k.keeps b (h.keeps b hb).1).1, (k.keeps b (h.keeps b hb).1).2.trans (h.keeps b hb).2⟩, fun b n hb => k.cap b n (h.cap b n hb)⟩

mutual
/-- The ids that a value speaks of. -/
def AV.ids : AV → List Nat
  | .ag cs => idsL cs
  | .tp vs => idsL vs
  | .ptr id _ => [id]
  | .ept id _ _ _ => [id]
  | .own id _ _ _ _ => [id]
  | .fn _ first caps => idsL first ++ idsL caps
  | _ => []
def idsL : List AV → List Nat
  | [] => []
  | x :: xs => x.ids ++ idsL xs
end

mutual
theorem CA.goes {A A' : Nat → Prop} {φ φ' : Nat → Nat} {w w' : World} (h : Goes A A' w w') : ∀ (x : AV) (y : Value), (∀ id ∈ x.ids, φ' id = φ id) → CA A φ w x y → CA A' φ' w' x y
  | .t x, y, _, hx => by simp only [CA] at hx ⊢; exact CT.keeps h.keeps x y hx
  | .ag cs, y, hi, hx => by
    simp only [CA] at hx ⊢; obtain ⟨ys, rfl, hx⟩ := hx
    exact ⟨ys, rfl, CAs.goes h cs _ (by simpa only [AV.ids] using hi) hx⟩
  | .tp cs, y, hi, hx => by
    simp only [CA] at hx ⊢; obtain ⟨ys, rfl, hx⟩ := hx
    exact ⟨ys, rfl, CAs.goes h cs _ (by simpa only [AV.ids] using hi) hx⟩
  | .ptr id off, y, hi, hx => by
    simp only [CA] at hx ⊢; rw [hi id (by simp [AV.ids])]; exact hx
  | .ept id sz i off, y, hi, hx => by
    simp only [CA] at hx ⊢; rw [hi id (by simp [AV.ids])]; exact hx
  | .ipt cs, y, _, hx => by
    simp only [CA] at hx ⊢; obtain ⟨b, o, rfl, hA, hx⟩ := hx
    exact ⟨b, o, rfl, (h.keeps b hA).1, CCells.keeps h.keeps (h.keeps b hA).2 o cs hx⟩
  | .own id sz off len r, y, hi, hx => by
    simp only [CA] at hx ⊢; obtain ⟨a, cap, rfl, hl, hf, hx⟩ := hx
    rw [hi id (by simp [AV.ids])]
    exact ⟨a, cap, rfl, hl, hf, hx.imp (fun h => h) fun ⟨h1, h2⟩ => ⟨h1, h.cap _ _ h2⟩⟩
  | .fn f fs cs, y, hi, hx => by
    simp only [CA] at hx ⊢; obtain ⟨us, ys, rfl, hx, hz⟩ := hx
    exact ⟨us, ys, rfl, CAs.goes h fs _ (fun i hm => hi i (by simp [AV.ids, hm])) hx, CAs.goes h cs _ (fun i hm => hi i (by simp [AV.ids, hm])) hz⟩
  | .undef, _, _, _ => by simp only [CA]
theorem CAs.goes {A A' : Nat → Prop} {φ φ' : Nat → Nat} {w w' : World} (h : Goes A A' w w') : ∀ (xs : List AV) (ys : List Value), (∀ id ∈ idsL xs, φ' id = φ id) → CAs A φ w xs ys → CAs A' φ' w' xs ys
  | [], _, _, hx => by simpa only [CAs] using hx
  | x :: xs, ys, hi, hx => by
    simp only [CAs] at hx ⊢
    obtain ⟨z, zs, rfl, h1, h2⟩ := hx
    exact ⟨z, zs, rfl, CA.goes h x z (fun i hm => hi i (by simp [idsL, hm])) h1, CAs.goes h xs zs (fun i hm => hi i (by simp [idsL, hm])) h2⟩
end

theorem CAs.length {A : Nat → Prop} {φ : Nat → Nat} {w : World} : ∀ {xs : List AV} {ys : List Value}, CAs A φ w xs ys → ys.length = xs.length
  | [], _, h => by simp only [CAs] at h; simp [h]
  | x :: xs, ys, h => by simp only [CAs] at h; obtain ⟨z, zs, rfl, _, h2⟩ := h; simp [CAs.length h2]

theorem CAs.get {A : Nat → Prop} {φ : Nat → Nat} {w : World} : ∀ {xs : List AV} {ys : List Value}, CAs A φ w xs ys → ∀ {i : Nat} {x : AV}, xs[i]? = some x → ∃ y, ys[i]? = some y ∧ CA A φ w x y
  | [], _, _, _, _, hi => by simp at hi
  | x :: xs, ys, h, 0, u, hi => by simp only [CAs] at h; obtain ⟨z, zs, rfl, h1, _⟩ := h; simp at hi; subst hi; exact ⟨z, rfl, h1⟩
  | x :: xs, ys, h, i + 1, u, hi => by
    simp only [CAs] at h; obtain ⟨z, zs, rfl, _, h2⟩ := h
    simpa using CAs.get h2 (i := i) (x := u) (by simpa using hi)

theorem CAs.iff {A : Nat → Prop} {φ : Nat → Nat} {w : World} : ∀ {xs : List AV} {ys : List Value}, CAs A φ w xs ys ↔ ys.length = xs.length ∧ ∀ (i : Nat) (x : AV), xs[i]? = some x → ∃ y, ys[i]? = some y ∧ CA A φ w x y
  | [], ys => by simp [CAs]
  | x :: xs, ys => by
    refine ⟨fun h => ⟨CAs.length h, fun i x hx => CAs.get h hx⟩, fun ⟨hl, hg⟩ => ?_⟩
    cases ys with
    | nil => simp at hl
    | cons z zs =>
      simp only [CAs]
      refine ⟨z, zs, rfl, ?_, CAs.iff.2 ⟨by simpa using hl, fun i u hu => ?_⟩⟩
      · obtain ⟨y, hy, hc⟩ := hg 0 x rfl; simp at hy; subst hy; exact hc
      · simpa using hg (i + 1) u (by simpa using hu)

/-- An object of the abstract store: a variable's cells; a row that is one's own (not real: no memory yet); a row that is never written again. -/
inductive Ob where
  | box (cs : List AV)
  | row (sz : Nat) (real : Bool) (es : List (List T))
  | fro (sz : Nat) (es : List (List T))
  | dead
  deriving Inhabited

def Ob.ids : Ob → List Nat
  | .box cs => idsL cs
  | _ => []

/-- Does the object own a block? -/
def Ob.live : Ob → Bool
  | .box _ => true
  | .row _ r _ => r
  | _ => false

def CO (A : Nat → Prop) (φ : Nat → Nat) (w : World) (b : Nat) : Ob → Prop
  | .box cs => ∃ ys e, w.heap[b]? = some (.cells ys e (0, 0)) ∧ CAs A φ w cs ys.toList ∧ ∀ y ∈ ys.toList, y.oneCell' = true
  | .row sz r es => (r = false → es = []) ∧ (r = true → (∃ ys e, w.heap[b]? = some (.cells ys e (0, 0))) ∧ CRows A w sz b 0 es)
  | .fro sz es => A b ∧ CRows A w sz b 0 es
  | .dead => True

end Go.Sx
