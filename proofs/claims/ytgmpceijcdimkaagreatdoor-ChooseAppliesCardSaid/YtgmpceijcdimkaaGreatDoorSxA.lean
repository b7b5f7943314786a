/- Plain trees, abstract values, and how they stand for the machine's values. No statement of a seat is proved here. -/
import Derived.WalkKit
set_option linter.unusedSimpArgs false
set_option linter.unusedVariables false
namespace Go.Sx

/-- A plain tree: one cell's value that holds no memory, or a slice read whole (each element as its cells). -/
inductive T where
 | v (x : Value)
 | sl (sz : Nat) (es : List (List T))
 deriving Inhabited

mutual
/-- A tree stands for a cell's value; 'A': the blocks that are never written again. -/
def CT (A : Nat → Prop) (w : World) : T → Value → Prop
 | .v x, y => y = x ∧ x.oneCell' = true
 | .sl sz es, y => ∃ a cap, y = .slice a es.length cap ∧ es.length ≤ cap ∧ (es = [] ∨ ∃ b o, a = some ⟨b, o, none⟩ ∧ A b ∧ E5 A w sz b o es)
def E5 (A : Nat → Prop) (w : World) (sz : Nat) (b : Nat) : Nat → List (List T) → Prop
 | _, [] => True
 | o, e :: es => (e.length = sz ∧ D0 A w b o e) ∧ E5 A w sz b (o + sz) es
def D0 (A : Nat → Prop) (w : World) (b : Nat) : Nat → List T → Prop
 | _, [] => True
 | o, c :: cs => (∃ y, w.cell? ⟨b, o, none⟩ = some y ∧ CT A w c y) ∧ D0 A w b (o + 1) cs
end

/-- w' holds all that w holds in the blocks of A, and A' takes in A. -/
def C88 (A A' : Nat → Prop) (w w' : World) : Prop := ∀ b, A b → A' b ∧ w'.heap[b]? = w.heap[b]?

theorem B8l {w w' : World} {b : Nat} (h : w'.heap[b]? = w.heap[b]?) (o : Nat) : w'.cell? ⟨b, o, none⟩ = w.cell? ⟨b, o, none⟩ := by
 simp only [World.cell?, h]

mutual
theorem CT.keeps {A A' : Nat → Prop} {w w' : World} (h : C88 A A' w w') : ∀ (x : T) (y : Value), CT A w x y → CT A' w' x y
 | .v _, _, hx => by simpa only [CT] using hx
 | .sl sz es, y, hx => by
  simp only [CT] at hx ⊢
  obtain ⟨a, cap, rfl, hc, hr⟩ := hx
  refine ⟨a, cap, rfl, hc, ?_⟩
  rcases hr with hr | ⟨b, o, ha, hA, hr⟩
  ·exact Or.inl hr
  ·exact Or.inr ⟨b, o, ha, (h b hA).1, E5.keeps h (h b hA).2 sz o es hr⟩
theorem E5.keeps {A A' : Nat → Prop} {w w' : World} (h : C88 A A' w w') {b : Nat} (hb : w'.heap[b]? = w.heap[b]?) (sz : Nat) : ∀ (o : Nat) (es : List (List T)), E5 A w sz b o es → E5 A' w' sz b o es
 | _, [], _ => by simp only [E5]
 | o, e :: es, hx => by
  simp only [E5] at hx ⊢
  exact ⟨⟨hx.1.1, D0.keeps h hb o e hx.1.2⟩, E5.keeps h hb sz _ es hx.2⟩
theorem D0.keeps {A A' : Nat → Prop} {w w' : World} (h : C88 A A' w w') {b : Nat} (hb : w'.heap[b]? = w.heap[b]?) : ∀ (o : Nat) (cs : List T), D0 A w b o cs → D0 A' w' b o cs
 | _, [], _ => by simp only [D0]
 | o, c :: cs, hx => by
  simp only [D0] at hx ⊢
  obtain ⟨⟨y, hy, hc⟩, hr⟩ := hx
  exact ⟨⟨y, by rw [B8l hb]; exact hy, CT.keeps h c y hc⟩, D0.keeps h hb _ cs hr⟩
end

theorem CT.oneCell {A : Nat → Prop} {w : World} : ∀ {x : T} {y : Value}, CT A w x y → y.oneCell' = true
 | .v _, _, h => by simp only [CT] at h; rw [h.1]; exact h.2
 | .sl _ _, _, h => by simp only [CT] at h; obtain ⟨a, c, rfl, _⟩ := h; rfl

theorem D0.get {A : Nat → Prop} {w : World} {b : Nat} : ∀ {cs : List T} {o : Nat}, D0 A w b o cs → ∀ {i : Nat} {c : T}, cs[i]? = some c → ∃ y, w.cell? ⟨b, o + i, none⟩ = some y ∧ CT A w c y
 | [], _, _, _, _, h => by simp at h
 | c :: cs, o, hx, 0, d, h => by simp only [D0] at hx; simp at h; subst h; simpa using hx.1
 | c :: cs, o, hx, i + 1, d, h => by
  simp only [D0] at hx
  have := D0.get hx.2 (i := i) (c := d) (by simpa using h)
  rwa [show o + 1 + i = o + (i + 1) from by omega] at this

theorem D0.drop {A : Nat → Prop} {w : World} {b : Nat} : ∀ {cs : List T} {o : Nat} (_ : D0 A w b o cs) (i : Nat), D0 A w b (o + i) (cs.drop i)
 | _, _, hx, 0 => by simpa using hx
 | [], _, _, i + 1 => by simp only [List.drop_nil, D0]
 | c :: cs, o, hx, i + 1 => by
  simp only [D0] at hx
  have := D0.drop hx.2 i
  rw [show o + 1 + i = o + (i + 1) from by omega] at this
  simpa using this

theorem D0.append {A : Nat → Prop} {w : World} {b : Nat} : ∀ {cs ds : List T} {o : Nat}, D0 A w b o (cs ++ ds) ↔ D0 A w b o cs ∧ D0 A w b (o + cs.length) ds
 | [], ds, o => by simp [D0]
 | c :: cs, ds, o => by
  simp only [List.cons_append, D0, D0.append (cs := cs) (ds := ds) (o := o + 1), List.length_cons]
  rw [show o + 1 + cs.length = o + (cs.length + 1) from by omega]
  simp only [and_assoc]

theorem E5.append {A : Nat → Prop} {w : World} {sz b : Nat} : ∀ {cs ds : List (List T)} {o : Nat}, E5 A w sz b o (cs ++ ds) ↔ E5 A w sz b o cs ∧ E5 A w sz b (o + cs.length * sz) ds
 | [], ds, o => by simp [E5]
 | c :: cs, ds, o => by
  simp only [List.cons_append, E5, E5.append (cs := cs) (ds := ds) (o := o + sz), List.length_cons]
  rw [show o + sz + cs.length * sz = o + (cs.length + 1) * sz from by rw [Nat.add_mul]; omega]
  simp only [and_assoc]

theorem E5.get {A : Nat → Prop} {w : World} {sz b : Nat} : ∀ {es : List (List T)} {o : Nat}, E5 A w sz b o es → ∀ {i : Nat} {e : List T}, es[i]? = some e → e.length = sz ∧ D0 A w b (o + i * sz) e
 | [], _, _, _, _, h => by simp at h
 | c :: cs, o, hx, 0, d, h => by simp only [E5] at hx; simp at h; subst h; simpa using hx.1
 | c :: cs, o, hx, i + 1, d, h => by
  simp only [E5] at hx
  have := E5.get hx.2 (i := i) (e := d) (by simpa using h)
  rwa [show o + sz + i * sz = o + (i + 1) * sz from by rw [Nat.add_mul]; omega] at this

theorem E5.drop {A : Nat → Prop} {w : World} {sz b : Nat} : ∀ {es : List (List T)} {o : Nat} (_ : E5 A w sz b o es) (i : Nat), E5 A w sz b (o + i * sz) (es.drop i)
 | _, _, hx, 0 => by simpa using hx
 | [], _, _, i + 1 => by simp only [List.drop_nil, E5]
 | c :: cs, o, hx, i + 1 => by
  simp only [E5] at hx
  have := E5.drop hx.2 i
  rw [show o + sz + i * sz = o + (i + 1) * sz from by rw [Nat.add_mul]; omega] at this
  simpa using this

theorem E5.take {A : Nat → Prop} {w : World} {sz b : Nat} : ∀ {es : List (List T)} {o : Nat} (_ : E5 A w sz b o es) (i : Nat), E5 A w sz b o (es.take i)
 | _, _, hx, 0 => by simp only [List.take_zero, E5]
 | [], _, _, i + 1 => by simp only [List.take_nil, E5]
 | c :: cs, o, hx, i + 1 => by
  simp only [E5] at hx
  simp only [List.take_succ_cons, E5]
  exact ⟨hx.1, E5.take hx.2 i⟩

theorem E5.flatten {A : Nat → Prop} {w : World} {sz b : Nat} : ∀ {es : List (List T)} {o : Nat} (_ : E5 A w sz b o es), D0 A w b o es.flatten ∧ es.flatten.length = es.length * sz
 | [], _, _ => by simp [D0]
 | c :: cs, o, hx => by
  simp only [E5] at hx
  have ih := E5.flatten hx.2
  simp only [List.flatten_cons, D0.append, List.length_append, List.length_cons]
  rw [hx.1.1]
  exact ⟨⟨hx.1.2, ih.1⟩, by rw [ih.2, Nat.add_mul]; omega⟩

/-- An abstract value: a tree; a struct or an array by its cells; several results; a pointer into an object of the abstract store, or into memory that is never written again; a slice of an object; a function value; an interface's value, of which is known only whether it holds one. -/
inductive AV where
 | t (x : T)
 | ag (cs : List AV)
 | tp (vs : List AV)
 | ptr (id off : Nat)
 | ept (id sz i off : Nat)
 | ipt (cs : List T)
 | own (id sz off len : Nat) (r : Bool)
 | fn (f : FuncId) (first caps : List AV)
 | ifc (b : Bool)
 | undef
 deriving Inhabited

/-- Block b is a row of at least n cells, none of them frozen. -/
def A3i (w : World) (b n : Nat) : Prop := ∃ cs e, w.heap[b]? = some (.cells cs e (0, 0)) ∧ n ≤ cs.size

mutual
def CA (A : Nat → Prop) (φ : Nat → Nat) (w : World) : AV → Value → Prop
 | .t x, y => CT A w x y
 | .ag cs, y => ∃ ys, y = .agg ys ∧ H7 A φ w cs ys.toList
 | .tp vs, y => ∃ ys, y = .tuple ys ∧ H7 A φ w vs ys.toList
 | .ptr id off, y => y = .pointer (some ⟨φ id, off, none⟩)
 | .ept id sz i off, y => y = .pointer (some ⟨φ id, i * sz + off, none⟩)
 | .ipt cs, y => ∃ b o, y = .pointer (some ⟨b, o, none⟩) ∧ A b ∧ D0 A w b o cs
 | .own id sz off len r, y => ∃ a cap, y = .slice a len cap ∧ len ≤ cap ∧ (r = false → cap = 0) ∧ (cap = 0 ∨ (a = some ⟨φ id, off * sz, none⟩ ∧ A3i w (φ id) ((off + cap) * sz)))
 | .fn f first caps, y => ∃ us ys, y = .func (.func f) us ys ∧ H7 A φ w first us.toList ∧ H7 A φ w caps ys.toList
 | .ifc b, y => (b = true → ∃ t v, y = .iface t v) ∧ (b = false → y = .nilIface)
 | .undef, _ => True
def H7 (A : Nat → Prop) (φ : Nat → Nat) (w : World) : List AV → List Value → Prop
 | [], ys => ys = []
 | x :: xs, ys => ∃ z zs, ys = z :: zs ∧ CA A φ w x z ∧ H7 A φ w xs zs
end

/-- What the steps of a run keep: the blocks of A as they were; rows of cells stay rows of as many cells, unfrozen where they were; φ agrees on the ids that are met. -/
structure Goes (A A' : Nat → Prop) (w w' : World) : Prop where
 keeps : C88 A A' w w'
 cap : ∀ b n, A3i w b n → A3i w' b n

theorem Goes.refl (A : Nat → Prop) (w : World) : Goes A A w w := ⟨fun _ h => ⟨h, rfl⟩, fun _ _ h => h⟩
theorem Goes.trans {A B C : Nat → Prop} {u v w : World} (h : Goes A B u v) (k : Goes B C v w) : Goes A C u w :=
 ⟨fun b hb => ⟨(k.keeps b (h.keeps b hb).1).1, (k.keeps b (h.keeps b hb).1).2.trans (h.keeps b hb).2⟩, fun b n hb => k.cap b n (h.cap b n hb)⟩

mutual
/-- The ids that a value speaks of. -/
def AV.ids : AV → List Nat
 | .ag cs => B5 cs
 | .tp vs => B5 vs
 | .ptr id _ => [id]
 | .ept id _ _ _ => [id]
 | .own id _ _ _ _ => [id]
 | .fn _ first caps => B5 first ++ B5 caps
 | _ => []
def B5 : List AV → List Nat
 | [] => []
 | x :: xs => x.ids ++ B5 xs
end

mutual
theorem CA.goes {A A' : Nat → Prop} {φ φ' : Nat → Nat} {w w' : World} (h : Goes A A' w w') : ∀ (x : AV) (y : Value), (∀ id ∈ x.ids, φ' id = φ id) → CA A φ w x y → CA A' φ' w' x y
 | .t x, y, _, hx => by simp only [CA] at hx ⊢; exact CT.keeps h.keeps x y hx
 | .ag cs, y, hi, hx => by
  simp only [CA] at hx ⊢; obtain ⟨ys, rfl, hx⟩ := hx
  exact ⟨ys, rfl, H7.goes h cs _ (by simpa only [AV.ids] using hi) hx⟩
 | .tp cs, y, hi, hx => by
  simp only [CA] at hx ⊢; obtain ⟨ys, rfl, hx⟩ := hx
  exact ⟨ys, rfl, H7.goes h cs _ (by simpa only [AV.ids] using hi) hx⟩
 | .ptr id off, y, hi, hx => by
  simp only [CA] at hx ⊢; rw [hi id (by simp [AV.ids])]; exact hx
 | .ept id sz i off, y, hi, hx => by
  simp only [CA] at hx ⊢; rw [hi id (by simp [AV.ids])]; exact hx
 | .ipt cs, y, _, hx => by
  simp only [CA] at hx ⊢; obtain ⟨b, o, rfl, hA, hx⟩ := hx
  exact ⟨b, o, rfl, (h.keeps b hA).1, D0.keeps h.keeps (h.keeps b hA).2 o cs hx⟩
 | .own id sz off len r, y, hi, hx => by
  simp only [CA] at hx ⊢; obtain ⟨a, cap, rfl, hl, hf, hx⟩ := hx
  rw [hi id (by simp [AV.ids])]
  exact ⟨a, cap, rfl, hl, hf, hx.imp (fun h => h) fun ⟨h1, h2⟩ => ⟨h1, h.cap _ _ h2⟩⟩
 | .fn f fs cs, y, hi, hx => by
  simp only [CA] at hx ⊢; obtain ⟨us, ys, rfl, hx, hz⟩ := hx
  exact ⟨us, ys, rfl, H7.goes h fs _ (fun i hm => hi i (by simp [AV.ids, hm])) hx, H7.goes h cs _ (fun i hm => hi i (by simp [AV.ids, hm])) hz⟩
 | .ifc b, y, _, hx => by simp only [CA] at hx ⊢; exact hx
 | .undef, _, _, _ => by simp only [CA]
theorem H7.goes {A A' : Nat → Prop} {φ φ' : Nat → Nat} {w w' : World} (h : Goes A A' w w') : ∀ (xs : List AV) (ys : List Value), (∀ id ∈ B5 xs, φ' id = φ id) → H7 A φ w xs ys → H7 A' φ' w' xs ys
 | [], _, _, hx => by simpa only [H7] using hx
 | x :: xs, ys, hi, hx => by
  simp only [H7] at hx ⊢
  obtain ⟨z, zs, rfl, h1, h2⟩ := hx
  exact ⟨z, zs, rfl, CA.goes h x z (fun i hm => hi i (by simp [B5, hm])) h1, H7.goes h xs zs (fun i hm => hi i (by simp [B5, hm])) h2⟩
end

theorem H7.length {A : Nat → Prop} {φ : Nat → Nat} {w : World} : ∀ {xs : List AV} {ys : List Value}, H7 A φ w xs ys → ys.length = xs.length
 | [], _, h => by simp only [H7] at h; simp [h]
 | x :: xs, ys, h => by simp only [H7] at h; obtain ⟨z, zs, rfl, _, h2⟩ := h; simp [H7.length h2]

theorem H7.get {A : Nat → Prop} {φ : Nat → Nat} {w : World} : ∀ {xs : List AV} {ys : List Value}, H7 A φ w xs ys → ∀ {i : Nat} {x : AV}, xs[i]? = some x → ∃ y, ys[i]? = some y ∧ CA A φ w x y
 | [], _, _, _, _, hi => by simp at hi
 | x :: xs, ys, h, 0, u, hi => by simp only [H7] at h; obtain ⟨z, zs, rfl, h1, _⟩ := h; simp at hi; subst hi; exact ⟨z, rfl, h1⟩
 | x :: xs, ys, h, i + 1, u, hi => by
  simp only [H7] at h; obtain ⟨z, zs, rfl, _, h2⟩ := h
  simpa using H7.get h2 (i := i) (x := u) (by simpa using hi)

theorem H7.iff {A : Nat → Prop} {φ : Nat → Nat} {w : World} : ∀ {xs : List AV} {ys : List Value}, H7 A φ w xs ys ↔ ys.length = xs.length ∧ ∀ (i : Nat) (x : AV), xs[i]? = some x → ∃ y, ys[i]? = some y ∧ CA A φ w x y
 | [], ys => by simp [H7]
 | x :: xs, ys => by
  refine ⟨fun h => ⟨H7.length h, fun i x hx => H7.get h hx⟩, fun ⟨hl, hg⟩ => ?_⟩
  cases ys with
  | nil => simp at hl
  | cons z zs =>
   simp only [H7]
   refine ⟨z, zs, rfl, ?_, H7.iff.2 ⟨by simpa using hl, fun i u hu => ?_⟩⟩
   ·obtain ⟨y, hy, hc⟩ := hg 0 x rfl; simp at hy; subst hy; exact hc
   ·simpa using hg (i + 1) u (by simpa using hu)

/-- An object of the abstract store: a variable's cells; a row that is one's own (not real: no memory yet); a row that is never written again; a row whose cells may be one's own. -/
inductive Ob where
 | box (cs : List AV)
 | row (sz : Nat) (real : Bool) (es : List (List T))
 | fro (sz : Nat) (es : List (List T))
 | rowA (sz : Nat) (es : List (List AV))
 | dead
 deriving Inhabited

def Ob.ids : Ob → List Nat
 | .box cs => B5 cs
 | .rowA _ es => B5 es.flatten
 | _ => []

/-- Does the object own a block? -/
def Ob.live : Ob → Bool
 | .box _ => true
 | .row _ r _ => r
 | .rowA _ _ => true
 | _ => false

def CO (A : Nat → Prop) (φ : Nat → Nat) (w : World) (b : Nat) : Ob → Prop
 | .box cs => ∃ ys e, w.heap[b]? = some (.cells ys e (0, 0)) ∧ H7 A φ w cs ys.toList ∧ ∀ y ∈ ys.toList, y.oneCell' = true
 | .row sz r es => (r = false → es = []) ∧ (r = true → (∃ ys e, w.heap[b]? = some (.cells ys e (0, 0))) ∧ E5 A w sz b 0 es)
 | .fro sz es => A b ∧ E5 A w sz b 0 es
 | .rowA sz es => (∀ x ∈ es, x.length = sz) ∧ ∃ ys e, w.heap[b]? = some (.cells ys e (0, 0)) ∧ ∃ pre post : List Value, ys.toList = pre ++ post ∧ H7 A φ w es.flatten pre ∧ ∀ y ∈ pre, y.oneCell' = true
 | .dead => True

end Go.Sx

namespace Go.Sx

def upd {α : Type} (f : Nat → α) (k : Nat) (v : α) : Nat → α := fun i => if i = k then v else f i
@[simp] theorem A1e {α : Type} (f : Nat → α) (k : Nat) (v : α) : upd f k v k = v := by simp [upd]
theorem D5 {α : Type} (f : Nat → α) {k i : Nat} (v : α) (h : i ≠ k) : upd f k v i = f i := by simp [upd, h]

structure St where
 env : Nat → AV
 sto : Nat → Option Ob

/-- What is known of all worlds (tables that the program lays), and the blocks that it speaks of. -/
structure Env where
 gi : World → Prop
 gb : Nat → Prop
 stable : ∀ w w' : World, (∀ b, gb b → w'.heap[b]? = w.heap[b]?) → gi w → gi w'
 /-- Are draws counted? -/
 cnt : Prop := True

/-- How the call began: its world, the blocks that are not to be written, the blocks of the objects that were handed in to be changed. -/
structure Frm where
 w : World
 A : Nat → Prop
 φ : Nat → Nat
 io : List Nat
 K : List (Nat × Obj)
 V : List (AV × Value)

structure RS (E : Env) (F : Frm) (sto : Nat → Option Ob) (w : World) (A : Nat → Prop) (φ : Nat → Nat) : Prop where
 nod : ∀ id o, sto id = some o → ∀ j ∈ o.ids, (sto j).isSome = true
 obj : ∀ id o, sto id = some o → CO A φ w (φ id) o
 liv : ∀ id o, sto id = some o → o.live = true → ¬ A (φ id) ∧ φ id < w.heap.size ∧ ((id ∈ F.io ∧ φ id = F.φ id) ∨ F.w.heap.size ≤ φ id)
 inj : ∀ i j oi oj, sto i = some oi → sto j = some oj → oi.live = true → oj.live = true → i ≠ j → φ i ≠ φ j
 alt : ∀ b, A b → b < w.heap.size
 gi : E.gi w
 gA : ∀ b, E.gb b → A b
 os : w.os = F.w.os
 tape : w.tape = F.w.tape
 output : w.output = F.w.output
 drawn : E.cnt → F.w.drawn ≤ w.drawn
 kept : ∀ p ∈ F.K, F.w.heap.size ≤ p.1 ∧ w.heap[p.1]? = some p.2 ∧ (∀ c e f, p.2 ≠ .cells c e f) ∧ ¬ A p.1
 vals : ∀ p ∈ F.V, CA A φ w p.1 p.2 ∧ ∀ i ∈ p.1.ids, (sto i).isSome = true
 size : F.w.heap.size ≤ w.heap.size
 old : ∀ b, b < F.w.heap.size → (∀ id ∈ F.io, F.φ id ≠ b) → w.heap[b]? = F.w.heap[b]?
 asub : ∀ b, F.A b → A b
 anew : ∀ b, A b → F.A b ∨ F.w.heap.size ≤ b
 cap : ∀ b n, A3i F.w b n → A3i w b n
 ioc : ∀ id ∈ F.io, id < 100
 iok : ∀ id o, sto id = some o → o.live = true → id ∈ F.io → φ id = F.φ id

theorem H7.mem {A : Nat → Prop} {φ : Nat → Nat} {w : World} : ∀ {xs : List AV} {ys : List Value}, H7 A φ w xs ys → ∀ y ∈ ys, ∃ x ∈ xs, CA A φ w x y
 | [], _, h, y, hy => by simp only [H7] at h; subst h; simp at hy
 | x :: xs, _, h, y, hy => by
  simp only [H7] at h; obtain ⟨z, zs, rfl, h1, h2⟩ := h
  rcases List.mem_cons.1 hy with rfl | hy
  ·exact ⟨x, by simp, h1⟩
  ·obtain ⟨u, hu, hc⟩ := H7.mem h2 y hy; exact ⟨u, by simp [hu], hc⟩

theorem CO.goes {A A' : Nat → Prop} {φ φ' : Nat → Nat} {w w' : World} (h : Goes A A' w w') {b : Nat} : ∀ (o : Ob), (∀ id ∈ o.ids, φ' id = φ id) → (o.live = true → w'.heap[b]? = w.heap[b]?) → CO A φ w b o → CO A' φ' w' b o
 | .box cs, hi, hb, hx => by
  simp only [CO] at hx ⊢; obtain ⟨ys, e, h1, h2, h3⟩ := hx
  exact ⟨ys, e, by rw [hb rfl]; exact h1, H7.goes h cs _ (by simpa only [Ob.ids] using hi) h2, h3⟩
 | .row sz r es, hi, hb, hx => by
  simp only [CO] at hx ⊢
  refine ⟨hx.1, fun hr => ?_⟩
  obtain ⟨⟨ys, e, h1⟩, h2⟩ := hx.2 hr
  have hb' := hb (by simpa [Ob.live] using hr)
  exact ⟨⟨ys, e, by rw [hb']; exact h1⟩, E5.keeps h.keeps hb' sz 0 es h2⟩
 | .fro sz es, hi, hb, hx => by
  simp only [CO] at hx ⊢
  exact ⟨(h.keeps b hx.1).1, E5.keeps h.keeps (h.keeps b hx.1).2 sz 0 es hx.2⟩
 | .rowA sz es, hi, hb, hx => by
  simp only [CO] at hx ⊢
  obtain ⟨hl, ys, e, h1, pre, post, h2, h3, h4⟩ := hx
  exact ⟨hl, ys, e, by rw [hb rfl]; exact h1, pre, post, h2, H7.goes h _ _ (by simpa only [Ob.ids] using hi) h3, h4⟩
 | .dead, _, _, _ => by simp only [CO]

theorem CO.cells {A : Nat → Prop} {φ : Nat → Nat} {w : World} {b : Nat} : ∀ {o : Ob}, o.live = true → CO A φ w b o → ∃ ys e, w.heap[b]? = some (.cells ys e (0, 0))
 | .box cs, _, h => by simp only [CO] at h; obtain ⟨ys, e, h, _⟩ := h; exact ⟨ys, e, h⟩
 | .row sz r es, hl, h => by simp only [CO] at h; exact (h.2 (by simpa [Ob.live] using hl)).1
 | .fro sz es, hl, _ => by simp [Ob.live] at hl
 | .rowA sz es, _, h => by simp only [CO] at h; obtain ⟨_, ys, e, h, _⟩ := h; exact ⟨ys, e, h⟩
 | .dead, hl, _ => by simp [Ob.live] at hl

theorem A88 {w : World} {b : Nat} {o : Obj} (h : w.heap[b]? = some o) : b < w.heap.size := by
 rcases Nat.lt_or_ge b w.heap.size with h' | h'
 ·exact h'
 ·simp [Array.getElem?_eq_none h'] at h

theorem A3i.lt {w : World} {b n : Nat} (h : A3i w b n) : b < w.heap.size := by
 obtain ⟨cs, e, h, _⟩ := h; exact A88 h

theorem A3i.of_heap {w w' : World} {b n : Nat} (h : w'.heap[b]? = w.heap[b]?) (k : A3i w b n) : A3i w' b n := by
 unfold A3i at *; rw [h]; exact k

theorem hao (w : World) (o : Obj) (i : Nat) (h : i < w.heap.size) : (w.alloc o).heap[i]? = w.heap[i]? := by
 show (w.heap.push o)[i]? = w.heap[i]?
 rw [Array.getElem?_push, if_neg (Nat.ne_of_lt h)]

theorem A47 {A : Nat → Prop} {w : World} (hA : ∀ b, A b → b < w.heap.size) (o : Obj) : Goes A A w (w.alloc o) :=
 ⟨fun b hb => ⟨hb, hao w o b (hA b hb)⟩, fun b _ hb => A3i.of_heap (hao w o b hb.lt) hb⟩

theorem A5v (A : Nat → Prop) (w : World) : Goes A A w w.drew := ⟨fun _ h => ⟨h, rfl⟩, fun _ _ h => h⟩

theorem A1l {A : Nat → Prop} {w : World} {b : Nat} {ys ys' : Array Value} {e : TypeId} (hb : w.heap[b]? = some (.cells ys e (0, 0))) (hs : ys'.size = ys.size) (hA : ¬ A b) : Goes A A w (w.setRow b ys') := by
 refine ⟨fun k hk => ⟨hk, setRow_other w b k ys' (fun e => hA (e ▸ hk))⟩, fun k n hk => ?_⟩
 by_cases hkb : k = b
 ·subst hkb
  obtain ⟨cs, e', h1, h2⟩ := hk
  rw [hb] at h1; injection h1 with h1; injection h1 with h1 h3; subst h1
  exact ⟨ys', e, setRow_heap w k ys ys' e (0, 0) hb, by omega⟩
 ·exact A3i.of_heap (setRow_other w b k ys' hkb) hk

section
variable {E : Env} {F : Frm} {sto : Nat → Option Ob} {w : World} {A : Nat → Prop} {φ : Nat → Nat}

theorem RS.drew (h : RS E F sto w A φ) : RS E F sto w.drew A φ where
 nod := h.nod
 obj := fun id o ho => CO.goes (A5v A w) o (fun _ _ => rfl) (fun _ => rfl) (h.obj id o ho)
 liv := h.liv
 inj := h.inj
 alt := h.alt
 gi := E.stable w _ (fun _ _ => rfl) h.gi
 gA := h.gA
 os := h.os
 tape := h.tape
 output := h.output
 drawn := fun hc => Nat.le_succ_of_le (h.drawn hc)
 kept := h.kept
 vals := fun p hp => ⟨CA.goes (A5v A w) _ _ (fun _ _ => rfl) (h.vals p hp).1, (h.vals p hp).2⟩
 size := h.size
 old := h.old
 asub := h.asub
 anew := h.anew
 cap := h.cap
 ioc := h.ioc
 iok := h.iok

theorem D7r (h : RS E F sto w A φ) {id : Nat} (hn : sto id = none) {i : Nat} {o : Ob} (ho : sto i = some o) : ∀ j ∈ o.ids, j ≠ id := by
 intro j hj e
 have := h.nod i o ho j hj
 rw [e, hn] at this; simp at this

theorem RS.alloc (h : RS E F sto w A φ) {id : Nat} (hn : sto id = none) (h100 : 100 ≤ id) (ys : Array Value) (e : TypeId) (ob : Ob)
  (hid : ∀ j ∈ ob.ids, (sto j).isSome = true) (ho : CO A (upd φ id w.heap.size) (w.alloc (.cells ys e)) w.heap.size ob) :
  RS E F (upd sto id (some ob)) (w.alloc (.cells ys e)) A (upd φ id w.heap.size) where
 nod := fun i o hi j hj => by
  by_cases hji : j = id
  ·simp [upd, hji]
  rw [D5 _ _ hji]
  by_cases hid' : i = id
  ·subst hid'; simp at hi; subst hi; exact hid j hj
  ·rw [D5 _ _ hid'] at hi; exact h.nod i o hi j hj
 obj := fun i o hi => by
  by_cases hid' : i = id
  ·subst hid'; simp at hi; subst hi; simpa using ho
  ·rw [D5 _ _ hid'] at hi
   rw [D5 _ _ hid']
   refine CO.goes (A47 h.alt _) o (fun j hj => D5 _ _ (D7r h hn hi j hj)) (fun hl => hao w _ _ (h.liv i o hi hl).2.1) (h.obj i o hi)
 liv := fun i o hi hl => by
  by_cases hid' : i = id
  ·subst hid'; simp
   exact ⟨fun ha => Nat.lt_irrefl _ (h.alt _ ha), Or.inr h.size⟩
  ·rw [D5 _ _ hid'] at hi
   rw [D5 _ _ hid']
   have := h.liv i o hi hl
   exact ⟨this.1, by simp; omega, this.2.2⟩
 inj := fun i j oi oj hi hj li lj hij => by
  by_cases h1 : i = id
  ·subst h1
   rw [D5 _ _ (Ne.symm hij)] at hj
   rw [A1e, D5 _ _ (Ne.symm hij)]
   have := (h.liv j oj hj lj).2.1; omega
  ·rw [D5 _ _ h1] at hi
   by_cases h2 : j = id
   ·subst h2
    rw [A1e, D5 _ _ hij]
    have := (h.liv i oi hi li).2.1; omega
   ·rw [D5 _ _ h2] at hj
    rw [D5 _ _ h1, D5 _ _ h2]
    exact h.inj i j oi oj hi hj li lj hij
 alt := fun b hb => by have := h.alt b hb; simp; omega
 gi := E.stable w _ (fun b hb => hao w _ _ (h.alt b (h.gA b hb))) h.gi
 gA := h.gA
 os := h.os
 tape := h.tape
 output := h.output
 drawn := h.drawn
 kept := fun p hp => by
  obtain ⟨k1, k2, k3, k4⟩ := h.kept p hp
  exact ⟨k1, (hao w _ _ (A88 k2)).trans k2, k3, k4⟩
 vals := fun p hp => ⟨CA.goes (A47 h.alt _) _ _ (fun j hj => D5 _ _ (fun e => by have := (h.vals p hp).2 j hj; rw [e, hn] at this; simp at this)) (h.vals p hp).1, fun j hj => by
  by_cases hji : j = id
  ·simp [upd, hji]
  ·rw [D5 _ _ hji]; exact (h.vals p hp).2 j hj⟩
 size := by have := h.size; simp; omega
 old := fun b hb hne => (hao w _ _ (Nat.lt_of_lt_of_le hb h.size)).trans (h.old b hb hne)
 asub := h.asub
 anew := h.anew
 cap := fun b n hb => (A47 h.alt _).cap b n (h.cap b n hb)
 ioc := h.ioc
 iok := fun i o hi hl hio => by
  by_cases hid' : i = id
  ·subst hid'; have := h.ioc i hio; omega
  ·rw [D5 _ _ hid'] at hi ⊢
   exact h.iok i o hi hl hio

theorem RS.write (h : RS E F sto w A φ) {id : Nat} {o0 ob : Ob} (hs : sto id = some o0) (hl0 : o0.live = true) {ys ys' : Array Value} {e : TypeId}
  (hb : w.heap[φ id]? = some (.cells ys e (0, 0))) (hsz : ys'.size = ys.size) (hid : ∀ j ∈ ob.ids, (sto j).isSome = true)
  (ho : CO A φ (w.setRow (φ id) ys') (φ id) ob) : RS E F (upd sto id (some ob)) (w.setRow (φ id) ys') A φ := by
 have hg : Goes A A w (w.setRow (φ id) ys') := A1l hb hsz (h.liv id o0 hs hl0).1
 exact {
  nod := fun i o hi j hj => by
   by_cases hji : j = id
   ·simp [upd, hji]
   rw [D5 _ _ hji]
   by_cases hid' : i = id
   ·subst hid'; simp at hi; subst hi; exact hid j hj
   ·rw [D5 _ _ hid'] at hi; exact h.nod i o hi j hj
  obj := fun i o hi => by
   by_cases hid' : i = id
   ·subst hid'; simp at hi; subst hi; exact ho
   ·rw [D5 _ _ hid'] at hi
    exact CO.goes hg o (fun _ _ => rfl) (fun hl => setRow_other w _ _ _ (h.inj i id o o0 hi hs hl hl0 hid')) (h.obj i o hi)
  liv := fun i o hi hl => by
   have hsz : (w.setRow (φ id) ys').heap.size = w.heap.size := setRow_size w _ _
   rw [hsz]
   by_cases hid' : i = id
   ·subst hid'; exact h.liv i o0 hs hl0
   ·rw [D5 _ _ hid'] at hi; exact h.liv i o hi hl
  inj := fun i j oi oj hi hj li lj hij => by
   have fi : ∃ o, sto i = some o ∧ o.live = true := by
    by_cases h1 : i = id
    ·exact ⟨o0, h1 ▸ hs, hl0⟩
    ·rw [D5 _ _ h1] at hi; exact ⟨oi, hi, li⟩
   have fj : ∃ o, sto j = some o ∧ o.live = true := by
    by_cases h1 : j = id
    ·exact ⟨o0, h1 ▸ hs, hl0⟩
    ·rw [D5 _ _ h1] at hj; exact ⟨oj, hj, lj⟩
   obtain ⟨a, ha, la⟩ := fi
   obtain ⟨b, hb, lb⟩ := fj
   exact h.inj i j a b ha hb la lb hij
  alt := fun b hb => by rw [setRow_size]; exact h.alt b hb
  gi := E.stable w _ (fun b hb => (hg.keeps b (h.gA b hb)).2) h.gi
  gA := h.gA
  os := h.os
  tape := h.tape
  output := h.output
  drawn := h.drawn
  kept := fun p hp => by
   obtain ⟨k1, k2, k3, k4⟩ := h.kept p hp
   refine ⟨k1, (setRow_other w _ _ _ (fun e => ?_)).trans k2, k3, k4⟩
   rw [e, hb] at k2; injection k2 with k2; exact k3 _ _ _ k2.symm
  vals := fun p hp => ⟨CA.goes hg _ _ (fun _ _ => rfl) (h.vals p hp).1, fun j hj => by
   by_cases hji : j = id
   ·simp [upd, hji]
   ·rw [D5 _ _ hji]; exact (h.vals p hp).2 j hj⟩
  size := by rw [setRow_size]; exact h.size
  old := fun b hb hne => by
   refine (setRow_other w _ _ _ ?_).trans (h.old b hb hne)
   rcases (h.liv id o0 hs hl0).2.2 with ⟨h1, h2⟩ | h1
   ·exact fun e => hne id h1 (by rw [← h2, e])
   ·omega
  asub := h.asub
  anew := h.anew
  cap := fun b n hb => hg.cap b n (h.cap b n hb)
  ioc := h.ioc
  iok := fun i o hi hl hio => by
   by_cases hid' : i = id
   ·subst hid'; exact h.iok i o0 hs hl0 hio
   ·rw [D5 _ _ hid'] at hi; exact h.iok i o hi hl hio }

/-- An object that is not met again. -/
theorem RS.kill (h : RS E F sto w A φ) {id : Nat} {o0 : Ob} (hs : sto id = some o0) : RS E F (upd sto id (some .dead)) w A φ where
 nod := fun i o hi j hj => by
  by_cases hid' : i = id
  ·subst hid'; simp at hi; subst hi; simp [Ob.ids] at hj
  ·rw [D5 _ _ hid'] at hi
   by_cases hji : j = id
   ·simp [upd, hji]
   ·rw [D5 _ _ hji]; exact h.nod i o hi j hj
 obj := fun i o hi => by
  by_cases hid' : i = id
  ·subst hid'; simp at hi; subst hi; simp [CO]
  ·rw [D5 _ _ hid'] at hi; exact h.obj i o hi
 liv := fun i o hi hl => by
  by_cases hid' : i = id
  ·subst hid'; simp at hi; subst hi; simp [Ob.live] at hl
  ·rw [D5 _ _ hid'] at hi; exact h.liv i o hi hl
 inj := fun i j oi oj hi hj li lj hij => by
  by_cases h1 : i = id
  ·subst h1; simp at hi; subst hi; simp [Ob.live] at li
  ·by_cases h2 : j = id
   ·subst h2; simp at hj; subst hj; simp [Ob.live] at lj
   ·rw [D5 _ _ h1] at hi; rw [D5 _ _ h2] at hj; exact h.inj i j oi oj hi hj li lj hij
 alt := h.alt
 gi := h.gi
 gA := h.gA
 os := h.os
 tape := h.tape
 output := h.output
 drawn := h.drawn
 kept := h.kept
 vals := fun p hp => ⟨(h.vals p hp).1, fun j hj => by
  by_cases hji : j = id
  ·simp [upd, hji]
  ·rw [D5 _ _ hji]; exact (h.vals p hp).2 j hj⟩
 size := h.size
 old := h.old
 asub := h.asub
 anew := h.anew
 cap := h.cap
 ioc := h.ioc
 iok := fun i o hi hl hio => by
  by_cases hid' : i = id
  ·subst hid'; simp at hi; subst hi; simp [Ob.live] at hl
  ·rw [D5 _ _ hid'] at hi; exact h.iok i o hi hl hio

/-- A row of nothing, that has no memory yet. -/
theorem RS.virt (h : RS E F sto w A φ) {id sz : Nat} (hn : sto id = none) : RS E F (upd sto id (some (.row sz false []))) w A φ := by
 have hne : ∀ i o, upd sto id (some (.row sz false [])) i = some o → o.live = true → sto i = some o := by
  intro i o hi hl
  by_cases hid' : i = id
  ·subst hid'; simp at hi; subst hi; simp [Ob.live] at hl
  ·rwa [D5 _ _ hid'] at hi
 exact {
  nod := fun i o hi j hj => by
   by_cases hid' : i = id
   ·subst hid'; simp at hi; subst hi; simp [Ob.ids] at hj
   ·rw [D5 _ _ hid'] at hi
    by_cases hji : j = id
    ·simp [upd, hji]
    ·rw [D5 _ _ hji]; exact h.nod i o hi j hj
  obj := fun i o hi => by
   by_cases hid' : i = id
   ·subst hid'; simp at hi; subst hi; simp [CO]
   ·rw [D5 _ _ hid'] at hi; exact h.obj i o hi
  liv := fun i o hi hli => h.liv i o (hne i o hi hli) hli
  inj := fun i j oi oj hi hj li lj hij => h.inj i j oi oj (hne i oi hi li) (hne j oj hj lj) li lj hij
  alt := h.alt
  gi := h.gi
  gA := h.gA
  os := h.os
  tape := h.tape
  output := h.output
  drawn := h.drawn
  kept := h.kept
  vals := fun p hp => ⟨(h.vals p hp).1, fun j hj => by
   by_cases hji : j = id
   ·simp [upd, hji]
   ·rw [D5 _ _ hji]; exact (h.vals p hp).2 j hj⟩
  size := h.size
  old := h.old
  asub := h.asub
  anew := h.anew
  cap := h.cap
  ioc := h.ioc
  iok := fun i o hi hl hio => h.iok i o (hne i o hi hl) hl hio }

/-- A block that nobody else owns becomes an object's. -/
theorem RS.adopt (h : RS E F sto w A φ) {id b : Nat} {ob : Ob} (hn : sto id = none) (h100 : 100 ≤ id) (hA : ¬ A b) (hlt : b < w.heap.size) (hF : F.w.heap.size ≤ b)
  (hne : ∀ i o, sto i = some o → o.live = true → φ i ≠ b) (hid : ∀ j ∈ ob.ids, (sto j).isSome = true) (ho : CO A (upd φ id b) w b ob) : RS E F (upd sto id (some ob)) w A (upd φ id b) where
 nod := fun i o hi j hj => by
  by_cases hji : j = id
  ·simp [upd, hji]
  rw [D5 _ _ hji]
  by_cases hid' : i = id
  ·subst hid'; simp at hi; subst hi; exact hid j hj
  ·rw [D5 _ _ hid'] at hi; exact h.nod i o hi j hj
 obj := fun i o hi => by
  by_cases hid' : i = id
  ·subst hid'; simp at hi; subst hi; simpa using ho
  ·rw [D5 _ _ hid'] at hi
   rw [D5 _ _ hid']
   exact CO.goes (Goes.refl A w) o (fun j hj => D5 _ _ (D7r h hn hi j hj)) (fun _ => rfl) (h.obj i o hi)
 liv := fun i o hi hl => by
  by_cases hid' : i = id
  ·subst hid'; simp; exact ⟨hA, hlt, Or.inr hF⟩
  ·rw [D5 _ _ hid'] at hi
   rw [D5 _ _ hid']
   exact h.liv i o hi hl
 inj := fun i j oi oj hi hj li lj hij => by
  by_cases h1 : i = id
  ·subst h1
   rw [D5 _ _ (Ne.symm hij)] at hj
   rw [A1e, D5 _ _ (Ne.symm hij)]
   exact fun e => hne j oj hj lj e.symm
  ·rw [D5 _ _ h1] at hi
   by_cases h2 : j = id
   ·subst h2
    rw [A1e, D5 _ _ hij]
    exact hne i oi hi li
   ·rw [D5 _ _ h2] at hj
    rw [D5 _ _ h1, D5 _ _ h2]
    exact h.inj i j oi oj hi hj li lj hij
 alt := h.alt
 gi := h.gi
 gA := h.gA
 os := h.os
 tape := h.tape
 output := h.output
 drawn := h.drawn
 kept := h.kept
 vals := fun p hp => ⟨CA.goes (Goes.refl A w) _ _ (fun j hj => D5 _ _ (fun e => by have := (h.vals p hp).2 j hj; rw [e, hn] at this; simp at this)) (h.vals p hp).1, fun j hj => by
  by_cases hji : j = id
  ·simp [upd, hji]
  ·rw [D5 _ _ hji]; exact (h.vals p hp).2 j hj⟩
 size := h.size
 old := h.old
 asub := h.asub
 anew := h.anew
 cap := h.cap
 ioc := h.ioc
 iok := fun i o hi hl hio => by
  by_cases hid' : i = id
  ·subst hid'; have := h.ioc i hio; omega
  ·rw [D5 _ _ hid'] at hi ⊢
   exact h.iok i o hi hl hio
end

/-- The frame's slots. -/
structure RE (ds : List Deferred) (st : St) (n : Nat) (a : Act) (w : World) (A : Nat → Prop) (φ : Nat → Nat) : Prop where
 size : a.tmps.size = n
 defers : a.defers = ds
 val : ∀ k, CA A φ w (st.env k) (a.tmps.getD k undef)
 nod : ∀ k, ∀ id ∈ (st.env k).ids, (st.sto id).isSome = true

theorem B9z (xs : Array Value) (d k : Nat) (v u : Value) (h : d < xs.size) : (xs.setIfInBounds d v).getD k u = if k = d then v else xs.getD k u := by
 simp only [Array.getD_eq_getD_getElem?, Array.getElem?_setIfInBounds]
 by_cases hk : k = d
 ·simp [hk, h]
 ·simp [hk, Ne.symm hk]

theorem RE.put {ds : List Deferred} {st : St} {n : Nat} {a : Act} {w w' : World} {A A' : Nat → Prop} {φ φ' : Nat → Nat} (h : RE ds st n a w A φ) {d : Nat} (hd : d < n) {x : AV} {v : Value} {sto' : Nat → Option Ob}
  (hg : Goes A A' w w') (hφ : ∀ id, (st.sto id).isSome = true → φ' id = φ id) (hs : ∀ id, (st.sto id).isSome = true → (sto' id).isSome = true)
  (hx : CA A' φ' w' x v) (hi : ∀ id ∈ x.ids, (sto' id).isSome = true) :
  RE ds ⟨upd st.env d x, sto'⟩ n (a.put (some d) v) w' A' φ' where
 size := by simp [Act.put, h.size]
 defers := by simp [Act.put, h.defers]
 val := fun k => by
  simp only [Act.put]
  rw [B9z _ _ _ _ _ (by rw [h.size]; exact hd)]
  by_cases hk : k = d
  ·simp [hk, hx]
  ·rw [D5 _ _ hk, if_neg hk]
   exact CA.goes hg _ _ (fun id hid => hφ id (h.nod k id hid)) (h.val k)
 nod := fun k id hid => by
  by_cases hk : k = d
  ·subst hk; simp at hid; exact hi id hid
  ·simp only [D5 _ _ hk] at hid
   exact hs id (h.nod k id hid)

theorem RE.put_none {ds : List Deferred} {st : St} {n : Nat} {a : Act} {w w' : World} {A A' : Nat → Prop} {φ φ' : Nat → Nat} (h : RE ds st n a w A φ) {v : Value} {sto' : Nat → Option Ob}
  (hg : Goes A A' w w') (hφ : ∀ id, (st.sto id).isSome = true → φ' id = φ id) (hs : ∀ id, (st.sto id).isSome = true → (sto' id).isSome = true) :
  RE ds ⟨st.env, sto'⟩ n (a.put none v) w' A' φ' where
 size := h.size
 defers := h.defers
 val := fun k => CA.goes hg _ _ (fun id hid => hφ id (h.nod k id hid)) (h.val k)
 nod := fun k id hid => hs id (h.nod k id hid)

end Go.Sx

namespace Go.Sx

inductive SV where
 | tm (k : Nat)
 | c (x : AV)
 deriving Inhabited

def SV.ev (env : Nat → AV) : SV → AV
 | .tm k => env k
 | .c x => x

/-- The kinds of cells that are held against each other. -/
inductive EK where
 | b
 | i (k : IntKind)
 | s
 deriving Inhabited, DecidableEq

/-- A slim operation: sizes and offsets are written out. -/
inductive SOp where
 | mv (x : SV)
 | pick (c a b : SV)
 | alloc (cs : List T)
 | box (x : SV)
 | build (cs : List T) (parts : List (Nat × Nat × SV))
 | bsl (sz len : Nat) (z : List T) (parts : List (Nat × SV))
 | load (agg : Bool) (sz : Nat) (x : SV)
 | store (sz : Nat) (x v : SV)
 | nilck (x : SV)
 | bin (op : BinOp) (x y : SV)
 | beq (neg : Bool) (x y : SV)
 | eqf (neg : Bool) (ks : List EK) (x y : SV)
 | un (op : UnOp) (x : SV)
 | cvi (k : IntKind) (x : SV)
 | cvf (k : FloatKind) (x : SV)
 | ifnil (neg : Bool) (x : SV)
 | fa (off : Nat) (x : SV)
 | fv (agg : Bool) (off sz : Nat) (x : SV)
 | ia (len : Option Nat) (sz : Nat) (x i : SV)
 | ix (arr : Option (Nat × Nat × Bool)) (x i : SV)
 | ext (x : SV) (i : Nat)
 | len (str : Bool) (x : SV)
 | mkfunc (f : FuncId) (first caps : List SV)
 | mksl (sz bytes : Nat) (z : List T) (l c : SV)
 | app (sz bytes : Nat) (s x : SV)
 | sli (sz : Nat) (x : SV) (lo hi : Option SV)
 | minmax (max : Bool) (xs : List SV)
 | isnil (neg : Bool) (x : SV)
 | cpy (sz : Nat) (d s : SV)
 | clr (sz : Nat) (z : List T) (d : SV)
 | bad
 deriving Inhabited

def SOp.svs : SOp → List SV
 | .mv x | .box x | .load _ _ x | .nilck x | .un _ x | .cvi _ x | .cvf _ x | .ifnil _ x | .fa _ x | .fv _ _ _ x | .ext x _ | .len _ x => [x]
 | .pick c a b => [c, a, b]
 | .alloc _ | .bad => []
 | .build _ ps => ps.map (·.2.2)
 | .bsl _ _ _ ps => ps.map (·.2)
 | .store _ x v | .bin _ x v | .beq _ x v | .eqf _ _ x v | .ia _ _ x v | .ix _ x v | .mksl _ _ _ x v | .app _ _ x v => [x, v]
 | .mkfunc _ a b => a ++ b
 | .sli _ x lo hi => [x] ++ lo.toList ++ hi.toList
 | .minmax _ xs => xs
 | .isnil _ x => [x]
 | .cpy _ d s => [d, s]
 | .clr _ _ d => [d]

/-- One cell's worth? -/
def AV.one : AV → Bool
 | .ag _ | .tp _ | .undef => false
 | _ => true

def AV.cells : AV → List AV
 | .ag cs => cs
 | x => [x]

/-- A cell as a tree. -/
def AV.tree : AV → Option T
 | .t x => some x
 | _ => none

def C2u : List AV → Option (List T)
 | [] => some []
 | x :: xs => match x.tree, C2u xs with
  | some a, some as => some (a :: as)
  | _, _ => none

/-- vs laid over cs from place off on. -/
def splice {α : Type} (cs : List α) (off : Nat) (vs : List α) : List α := cs.take off ++ vs ++ cs.drop (off + vs.length)

def B3w (ρ : SV → AV) : List AV → List (Nat × Nat × SV) → Option (List AV)
 | cs, [] => some cs
 | cs, (off, sz, x) :: ps => if (ρ x).cells.length = sz ∧ off + sz ≤ cs.length ∧ (ρ x).cells.all AV.one then B3w ρ (splice cs off (ρ x).cells) ps else none

def B9w (ρ : SV → AV) (sz : Nat) : List (List T) → List (Nat × SV) → Option (List (List T))
 | es, [] => some es
 | es, (i, x) :: ps => match C2u (ρ x).cells with
  | some ts => if ts.length = sz ∧ i < es.length then B9w ρ sz (es.set i ts) ps else none
  | none => none

/-- Rows whose cells may be one's own, laid in place. -/
def C0c (ρ : SV → AV) (sz : Nat) : List (List AV) → List (Nat × SV) → Option (List (List AV))
 | es, [] => some es
 | es, (i, x) :: ps => if (ρ x).cells.length = sz ∧ i < es.length ∧ (ρ x).cells.all AV.one then C0c ρ sz (es.set i (ρ x).cells) ps else none

/-- A value out of cells. -/
def B0b (agg : Bool) (sz : Nat) (cs : List AV) : Option AV :=
 if agg then (if sz ≤ cs.length then some (.ag (cs.take sz)) else none) else cs[0]?

def C5r (agg : Bool) (sz : Nat) (cs : List T) : Option AV :=
 if agg then (if sz ≤ cs.length then some (.ag ((cs.take sz).map .t)) else none) else cs[0]?.map .t

def G9 (op : BinOp) (k : IntKind) (x y : Int) : Option Value :=
 match op with
 | .add => some (.int k (k.wrap (x + y)))
 | .sub => some (.int k (k.wrap (x - y)))
 | .mul => some (.int k (k.wrap (x * y)))
 | .quo => if y = 0 then none else some (.int k (k.wrap (x.tdiv y)))
 | .rem => if y = 0 then none else some (.int k (x.tmod y))
 | .and => some (.int k (k.wrap ((BitVec.ofInt k.bits x &&& BitVec.ofInt k.bits y).toNat)))
 | .or => some (.int k (k.wrap ((BitVec.ofInt k.bits x ||| BitVec.ofInt k.bits y).toNat)))
 | .xor => some (.int k (k.wrap ((BitVec.ofInt k.bits x ^^^ BitVec.ofInt k.bits y).toNat)))
 | .andNot => some (.int k (k.wrap ((BitVec.ofInt k.bits x &&& ~~~(BitVec.ofInt k.bits y)).toNat)))
 | .eql => some (.bool (x == y))
 | .neq => some (.bool (x != y))
 | .lss => some (.bool (x < y))
 | .leq => some (.bool (x ≤ y))
 | .gtr => some (.bool (x > y))
 | .geq => some (.bool (x ≥ y))
 | _ => none

def A3x (op : BinOp) (k : IntKind) (x y : Int) : Option Value :=
 if y < 0 then none else match op with
 | .shl => some (.int k (k.wrap (x * 2 ^ (min y.toNat k.bits))))
 | .shr => some (.int k (x.fdiv (2 ^ (min y.toNat k.bits))))
 | _ => none

def S2 (op : BinOp) (x y : ByteArray) : Option Value :=
 match op with
 | .add => if ((x.size + y.size : Nat) : Int) > IntKind.i64.max then none else some (.string (x ++ y))
 | .eql => some (.bool (x.toList == y.toList))
 | .neq => some (.bool (!(x.toList == y.toList)))
 | .lss => some (.bool (Op.bytesLess x.toList y.toList))
 | .leq => some (.bool (Op.bytesLess x.toList y.toList || x.toList == y.toList))
 | .gtr => some (.bool (!(Op.bytesLess x.toList y.toList || x.toList == y.toList)))
 | .geq => some (.bool (!(Op.bytesLess x.toList y.toList)))
 | _ => none

def D0q (op : BinOp) (k : FloatKind) (x y : Nat) : Option Value :=
 match op with
 | .add => (k.format.add x y).map (.float k)
 | .sub => (k.format.sub x y).map (.float k)
 | .mul => (k.format.mul x y).map (.float k)
 | .quo => (k.format.div x y).map (.float k)
 | .eql => some (.bool (k.format.order x y == some .eq))
 | .neq => some (.bool (k.format.order x y != some .eq))
 | .lss => some (.bool (k.format.order x y == some .lt))
 | .leq => some (.bool (k.format.order x y == some .lt || k.format.order x y == some .eq))
 | .gtr => some (.bool (k.format.order x y == some .gt))
 | .geq => some (.bool (k.format.order x y == some .gt || k.format.order x y == some .eq))
 | _ => none

def B4v (op : BinOp) : AV → AV → Option Value
 | .t (.v (.int k x)), .t (.v (.int k' y)) =>
  match op with
  | .shl | .shr => A3x op k x y
  | _ => if k = k' then G9 op k x y else none
 | .t (.v (.string x)), .t (.v (.string y)) => S2 op x y
 | .t (.v (.float k x)), .t (.v (.float k' y)) => if k = k' then D0q op k x y else none
 | _, _ => none

def unV (op : UnOp) : AV → Option Value
 | .t (.v (.int k n)) => match op with
  | .neg => some (.int k (k.wrap (0 - n)))
  | .xor => some (.int k (k.wrap ((BitVec.ofInt k.bits (if k.signed then -1 else k.max) ^^^ BitVec.ofInt k.bits n).toNat)))
  | _ => none
 | .t (.v (.bool b)) => match op with
  | .not => some (.bool (!b))
  | _ => none
 | .t (.v (.float k b)) => match op with
  | .neg => some (.float k (Op.negFloat k b))
  | _ => none
 | _ => none

/-- Two cells of a kind: do they agree? -/
def eqC : EK → AV → AV → Option Bool
 | .i k, .t (.v (.int k1 x)), .t (.v (.int k2 y)) => if k1 = k ∧ k2 = k then some (x == y) else none
 | .b, .t (.v (.bool x)), .t (.v (.bool y)) => some (x == y)
 | .s, .t (.v (.string x)), .t (.v (.string y)) => some (x.toList == y.toList)
 | _, _, _ => none

def C6e : List EK → List AV → List AV → Option Bool
 | [], [], [] => some true
 | k :: ks, x :: xs, y :: ys => match eqC k x y, C6e ks xs ys with
  | some a, some b => some (a && b)
  | _, _ => none
 | _, _, _ => none

/-- A slice that is a tree. -/
def AV.asTree (sz : Nat) : AV → Option (List (List T))
 | .t (.sl s es) => if s = sz then some es else none
 | .t (.v (.slice _ 0 _)) => some []
 | _ => none

def AV.isNil : AV → Bool
 | .t (.v (.slice none 0 0)) => true
 | _ => false

def AV.asOwn : AV → Option (Nat × Nat × Nat × Nat × Bool)
 | .own id sz off len r => some (id, sz, off, len, r)
 | _ => none

theorem AV.asOwn_eq {x : AV} {id sz off len : Nat} {r : Bool} (h : x.asOwn = some (id, sz, off, len, r)) : x = .own id sz off len r := by
 cases x <;> simp_all [AV.asOwn]

/-- The elements of a piece of an object's row. -/
def B3 (sz off len : Nat) : Option Ob → Option (List (List T))
 | some (.row s _ es) => if s = sz ∧ off + len ≤ es.length then some ((es.drop off).take len) else none
 | some (.fro s es) => if s = sz ∧ off + len ≤ es.length then some ((es.drop off).take len) else none
 | _ => none

/-- A slice's elements as trees. -/
def B1 (sz : Nat) (sto : Nat → Option Ob) (x : AV) : Option (List (List T)) :=
 match x.asOwn with
 | some (id, s, off, len, _) => if s = sz then B3 sz off len (sto id) else none
 | none => x.asTree sz

def AV.isStr : AV → Bool
 | .t (.v (.string _)) => true
 | _ => false

def D6b : AV → Option Nat
 | .t (.v (.string s)) => some s.size
 | .t (.sl _ es) => some es.length
 | .t (.v (.slice none 0 0)) => some 0
 | .t (.v (.slice (some _) 0 _)) => some 0
 | .own _ _ _ len _ => some len
 | _ => none

/-- A place further on. -/
def AV.padd (off : Nat) : AV → Option AV
 | .ptr i o => some (.ptr i (o + off))
 | .ept i s j o => some (.ept i s j (o + off))
 | .ipt cs => some (.ipt (cs.drop off))
 | _ => none

/-- A number that no object has. -/
def Q7 (sto : Nat → Option Ob) (id : Nat) : Bool := (sto id).isNone && decide (100 ≤ id)

/-- What an operation answers, and which objects it lays or writes; 'bad' is what is not to be met. -/
def J9 (id : Nat) (o : SOp) (ρ : SV → AV) (sto : Nat → Option Ob) : Option (AV × List (Nat × Ob)) :=
 match o with
 | .bad => none
 | .mv x => some (ρ x, [])
 | .pick c a b => match ρ c with
  | .t (.v (.bool t)) => some (if t then ρ a else ρ b, [])
  | _ => none
 | .alloc cs => if Q7 sto id = true then some (.ptr id 0, [(id, .box (cs.map .t))]) else none
 | .box x => if Q7 sto id = true ∧ (ρ x).cells.all AV.one then some (.ptr id 0, [(id, .box (ρ x).cells)]) else none
 | .build cs ps => match B3w ρ (cs.map .t) ps with
  | some r => some (.ag r, [])
  | none => none
 | .bsl sz len z ps => if Q7 sto id = true then (match B9w ρ sz (List.replicate len z) ps with
  | some es => some (.own id sz 0 len true, [(id, .row sz true es)])
  | none => (match C0c ρ sz (List.replicate len (z.map .t)) ps with
   | some es => some (.own id sz 0 len true, [(id, .rowA sz es)])
   | none => none)) else none
 | .load agg sz x => match ρ x with
  | .ptr i off => match sto i with
   | some (.box cs) => (B0b agg sz (cs.drop off)).map fun v => (v, [])
   | _ => none
  | .ept i s j off => match sto i with
   | some (.row rsz true es) => if rsz = s then (match es[j]? with
    | some e => (C5r agg sz (e.drop off)).map fun v => (v, [])
    | none => none) else none
   | some (.fro rsz es) => if rsz = s then (match es[j]? with
    | some e => (C5r agg sz (e.drop off)).map fun v => (v, [])
    | none => none) else none
   | some (.rowA rsz es) => if rsz = s then (match es[j]? with
    | some e => (B0b agg sz (e.drop off)).map fun v => (v, [])
    | none => none) else none
   | _ => none
  | .ipt cs => (C5r agg sz cs).map fun v => (v, [])
  | _ => none
 | .store sz x v => match ρ x with
  | .ptr i off => match sto i with
   | some (.box cs) => if (ρ v).cells.length = sz ∧ off + sz ≤ cs.length ∧ (ρ v).cells.all AV.one then some (.undef, [(i, .box (splice cs off (ρ v).cells))]) else none
   | _ => none
  | .ept i s j off => match sto i with
   | some (.row rsz true es) => match es[j]?, C2u (ρ v).cells with
    | some e, some ts => if rsz = s ∧ ts.length = sz ∧ off + sz ≤ e.length then some (.undef, [(i, .row rsz true (es.set j (splice e off ts)))]) else none
    | _, _ => none
   | some (.rowA rsz es) => match es[j]? with
    | some e => if rsz = s ∧ (ρ v).cells.length = sz ∧ off + sz ≤ e.length ∧ (ρ v).cells.all AV.one then some (.undef, [(i, .rowA rsz (es.set j (splice e off (ρ v).cells)))]) else none
    | none => none
   | _ => none
  | _ => none
 | .nilck x => match ρ x with
  | .ptr i off => some (.ptr i off, [])
  | .ept i s j off => some (.ept i s j off, [])
  | .ipt cs => some (.ipt cs, [])
  | .fn f a b => some (.fn f a b, [])
  | _ => none
 | .bin op x y => (B4v op (ρ x) (ρ y)).map fun v => (.t (.v v), [])
 | .beq neg x y => match ρ x, ρ y with
  | .t (.v (.bool a)), .t (.v (.bool b)) => some (.t (.v (.bool (if neg then !(a == b) else a == b))), [])
  | _, _ => none
 | .eqf neg ks x y => match ρ x, ρ y with
  | .ag xs, .ag ys => (C6e ks xs ys).map fun b => (.t (.v (.bool (if neg then !b else b))), [])
  | _, _ => none
 | .un op x => (unV op (ρ x)).map fun v => (.t (.v v), [])
 | .cvi k x => match ρ x with
  | .t (.v (.int _ n)) => some (.t (.v (.int k (k.wrap n))), [])
  | _ => none
 | .cvf k x => match ρ x with
  | .t (.v (.int _ n)) => some (.t (.v (.float k (k.nearest n))), [])
  | _ => none
 | .ifnil neg x => match ρ x with
  | .ifc b => some (.t (.v (.bool (b == neg))), [])
  | _ => none
 | .fa off x => match (ρ x).padd off with
  | some v => some (v, [])
  | none => none
 | .fv agg off sz x => match ρ x with
  | .ag cs => (B0b agg sz (cs.drop off)).map fun v => (v, [])
  | _ => none
 | .ia len sz x i => match ρ i with
  | .t (.v (.int _ n)) => if 0 ≤ n then (match len with
   | some l => if n < l then (match (ρ x).padd (n.toNat * sz) with
    | some v => some (v, [])
    | none => none) else none
   | none => (match ρ x with
    | .own j s off l _ => if n < l ∧ s = sz then some (.ept j s (off + n.toNat) 0, []) else none
    | .t (.sl s es) => if s = sz then (match es[n.toNat]? with
     | some e => some (.ipt e, [])
     | none => none) else none
    | _ => none)) else none
  | _ => none
 | .ix arr x i => match ρ i with
  | .t (.v (.int _ n)) => if 0 ≤ n then (match arr, ρ x with
   | some (len, sz, agg), .ag cs => if n < len then (B0b agg sz (cs.drop (n.toNat * sz))).map fun v => (v, []) else none
   | none, .t (.v (.string s)) => match s[n.toNat]? with
    | some b => some (.t (.v (.int .u8 b.toNat)), [])
    | none => none
   | _, _ => none) else none
  | _ => none
 | .ext x i => match ρ x with
  | .tp vs => match vs[i]? with
   | some v => some (v, [])
   | none => none
  | _ => none
 | .len s x => if (ρ x).isStr = s then (D6b (ρ x)).map fun (m : Nat) => (AV.t (.v (.int .i64 (m : Int))), []) else none
 | .mkfunc f a b => some (.fn f (a.map ρ) (b.map ρ), [])
 | .mksl sz bytes z l c => if Q7 sto id = true then (match ρ l, ρ c with
  | .t (.v (.int _ n)), .t (.v (.int _ m)) => if 0 ≤ n ∧ n ≤ m ∧ m < 2 ^ 47 ∧ bytes * m ≤ 2 ^ 48 then some (.own id sz 0 n.toNat true, [(id, .row sz true (List.replicate n.toNat z))]) else none
  | _, _ => none) else none
 | .app sz bytes s x => match B1 sz sto (ρ x) with
  | some new => (match (ρ s).asOwn with
   | some (j, s', off, len, r') => (match sto j with
    | some (.row s'' r es) => if 100 ≤ j ∧ r' = r ∧ s' = sz ∧ s'' = sz ∧ off = 0 ∧ len = es.length ∧ (len + new.length) * bytes ≤ 2 ^ 47 ∧ len + new.length < 2 ^ 47 ∧ Q7 sto id = true
      then some (.own id sz 0 (len + new.length) (r || !new.isEmpty), [(j, .dead), (id, .row sz (r || !new.isEmpty) (es ++ new))]) else none
    | some (.rowA s'' es) => if 100 ≤ j ∧ s' = sz ∧ s'' = sz ∧ off = 0 ∧ len = es.length ∧ (len + new.length) * bytes ≤ 2 ^ 47 ∧ len + new.length < 2 ^ 47 ∧ Q7 sto id = true
      then some (.own id sz 0 (len + new.length) true, [(j, .dead), (id, .rowA sz (es ++ new.map (List.map AV.t)))]) else none
    | _ => none)
   | none => if (ρ s).isNil ∧ new.length * bytes ≤ 2 ^ 47 ∧ new.length < 2 ^ 47 ∧ Q7 sto id = true then some (.own id sz 0 new.length (!new.isEmpty), [(id, .row sz (!new.isEmpty) new)]) else none)
  | none => none
 | .sli sz x lo hi => match D6b (ρ x) with
  | some n =>
   match (match lo with | none => some (AV.t (.v (.int .i64 0))) | some v => some (ρ v)), (match hi with | none => some (AV.t (.v (.int .i64 n))) | some v => some (ρ v)) with
   | some (.t (.v (.int _ l))), some (.t (.v (.int _ h))) => if 0 ≤ l ∧ l ≤ h ∧ h ≤ n then (match ρ x with
    | .t (.v (.string s)) => if sz = 0 then some (.t (.v (.string (s.extract l.toNat h.toNat))), []) else none
    | .t (.sl s es) => if s = sz ∧ sz ≠ 0 then some (.t (.sl s ((es.drop l.toNat).take (h - l).toNat)), []) else none
    | .own j s off _ r => if s = sz ∧ sz ≠ 0 then some (.own j s (off + l.toNat) (h - l).toNat r, []) else none
    | .t (.v (.slice none 0 0)) => if sz ≠ 0 then some (.t (.v (.slice none 0 0)), []) else none
    | _ => none) else none
   | _, _ => none
  | none => none
 | .minmax mx xs => match xs.map ρ with
  | [.t (.v (.int k a)), .t (.v (.int k' b))] => if k = k' then some (.t (.v (.int k (if mx then max a b else min a b))), []) else none
  | _ => none
 | .isnil neg x => match ρ x with
  | .t (.v (.slice a _ _)) => some (.t (.v (.bool (a.isNone != neg))), [])
  | .t (.sl _ (_ :: _)) => some (.t (.v (.bool neg)), [])
  | .own _ _ _ len _ => if 0 < len then some (.t (.v (.bool neg)), []) else none
  | _ => none
 | .cpy sz d s => match B1 sz sto (ρ s), (ρ d).asOwn with
  | some new, some (j, s', off, len, _) => match sto j with
   | some (.row s'' true es) => if s' = sz ∧ s'' = sz ∧ off + len ≤ es.length then some (.t (.v (.int .i64 ((min new.length len : Nat) : Int))), [(j, .row sz true (splice es off (new.take len)))]) else none
   | _ => none
  | _, _ => none
 | .clr sz z d => match (ρ d).asOwn with
  | some (j, s', off, len, _) => match sto j with
   | some (.row s'' true es) => if s' = sz ∧ s'' = sz ∧ off + len ≤ es.length then some (.tp [], [(j, .row sz true (splice es off (List.replicate len z)))]) else none
   | _ => none
  | none => none

/-- The ids of objects that an operation looks at. -/
def rds (id : Nat) (o : SOp) (ρ : SV → AV) : List Nat :=
 match o with
 | .alloc _ | .box _ | .bsl .. | .mksl .. => [id]
 | .load _ _ x | .store _ x _ => (ρ x).ids
 | .app _ _ s x => id :: (ρ s).ids ++ (ρ x).ids
 | .cpy _ d s => (ρ d).ids ++ (ρ s).ids
 | .clr _ _ d => (ρ d).ids
 | _ => []

def G6 (sto : Nat → Option Ob) : List (Nat × Ob) → (Nat → Option Ob)
 | [] => sto
 | (i, o) :: ws => G6 (upd sto i (some o)) ws

theorem J4 {sto : Nat → Option Ob} : ∀ {ws : List (Nat × Ob)} {i : Nat}, (sto i).isSome = true → (G6 sto ws i).isSome = true
 | [], _, h => h
 | (j, o) :: ws, i, h => by
  simp only [G6]
  refine J4 ?_
  unfold upd; split <;> simp [h]

/-- The answer hangs on the operands, and on the objects that are looked at. -/
theorem B8d {id : Nat} {o : SOp} {ρ ρ' : SV → AV} {sto sto' : Nat → Option Ob} (hρ : ∀ x ∈ o.svs, ρ' x = ρ x) (hs : ∀ i ∈ rds id o ρ, sto' i = sto i) :
  J9 id o ρ' sto' = J9 id o ρ sto ∧ rds id o ρ' = rds id o ρ := by
 have hfresh : sto' id = sto id → Q7 sto' id = Q7 sto id := fun h => by unfold Q7; rw [h]
 have fillP_eq : ∀ (ps : List (Nat × Nat × SV)) (cs : List AV), (∀ p ∈ ps, ρ' p.2.2 = ρ p.2.2) → B3w ρ' cs ps = B3w ρ cs ps := by
  intro ps
  induction ps with
  | nil => intro cs _; rfl
  | cons p ps ih =>
   intro cs h
   obtain ⟨a, b, x⟩ := p
   have hx := h (a, b, x) (by simp)
   simp only at hx
   simp only [B3w, hx]
   split
   ·exact ih _ fun q hq => h q (by simp [hq])
   ·rfl
 have fillR_eq : ∀ (ps : List (Nat × SV)) (sz : Nat) (es : List (List T)), (∀ p ∈ ps, ρ' p.2 = ρ p.2) → B9w ρ' sz es ps = B9w ρ sz es ps := by
  intro ps
  induction ps with
  | nil => intro sz es _; rfl
  | cons p ps ih =>
   intro sz es h
   obtain ⟨a, x⟩ := p
   have hx := h (a, x) (by simp)
   simp only at hx
   simp only [B9w, hx]
   split
   ·split
    ·exact ih _ _ fun q hq => h q (by simp [hq])
    ·rfl
   ·rfl
 have fillA_eq : ∀ (ps : List (Nat × SV)) (sz : Nat) (es : List (List AV)), (∀ p ∈ ps, ρ' p.2 = ρ p.2) → C0c ρ' sz es ps = C0c ρ sz es ps := by
  intro ps
  induction ps with
  | nil => intro sz es _; rfl
  | cons p ps ih =>
   intro sz es h
   obtain ⟨a, x⟩ := p
   have hx := h (a, x) (by simp)
   simp only at hx
   simp only [C0c, hx]
   split
   ·exact ih _ _ fun q hq => h q (by simp [hq])
   ·rfl
 cases o with
 | build cs ps =>
  have h : ∀ p ∈ ps, ρ' p.2.2 = ρ p.2.2 := fun p hp => hρ _ (by simp only [SOp.svs, List.mem_map]; exact ⟨p, hp, rfl⟩)
  exact ⟨by simp only [J9, fillP_eq ps _ h], rfl⟩
 | bsl sz len z ps =>
  have h : ∀ p ∈ ps, ρ' p.2 = ρ p.2 := fun p hp => hρ _ (by simp only [SOp.svs, List.mem_map]; exact ⟨p, hp, rfl⟩)
  have h1 := hs id (by simp [rds])
  exact ⟨by simp only [J9, hfresh h1, fillR_eq ps _ _ h, fillA_eq ps _ _ h], rfl⟩
 | mkfunc f a b =>
  have ha : a.map ρ' = a.map ρ := List.map_congr_left fun x hx => hρ x (by simp [SOp.svs, hx])
  have hb : b.map ρ' = b.map ρ := List.map_congr_left fun x hx => hρ x (by simp [SOp.svs, hx])
  exact ⟨by simp only [J9, ha, hb], rfl⟩
 | minmax mx xs =>
  have ha : xs.map ρ' = xs.map ρ := List.map_congr_left fun x hx => hρ x (by simpa [SOp.svs] using hx)
  exact ⟨by simp only [J9, ha], rfl⟩
 | sli sz x lo hi =>
  have hx := hρ x (by simp [SOp.svs])
  have hlo : ∀ v, lo = some v → ρ' v = ρ v := fun v hv => hρ v (by simp [SOp.svs, hv])
  have hhi : ∀ v, hi = some v → ρ' v = ρ v := fun v hv => hρ v (by simp [SOp.svs, hv])
  cases lo <;> cases hi <;> simp_all [J9, rds]
 | load agg sz x =>
  have hx := hρ x (by simp [SOp.svs])
  simp only [rds] at hs
  refine ⟨?_, by simp only [rds, hx]⟩
  simp only [J9, hx]
  cases hv : ρ x <;> simp_all [AV.ids]
 | store sz x v =>
  have hx := hρ x (by simp [SOp.svs])
  have hy := hρ v (by simp [SOp.svs])
  simp only [rds] at hs
  refine ⟨?_, by simp only [rds, hx]⟩
  simp only [J9, hx, hy]
  cases hv : ρ x <;> simp_all [AV.ids]
 | app sz bytes s x =>
  have hx := hρ s (by simp [SOp.svs])
  have hy := hρ x (by simp [SOp.svs])
  simp only [rds] at hs
  refine ⟨?_, by simp only [rds, hx, hy]⟩
  have h0 := hs id (by simp)
  have h1 : B1 sz sto' (ρ x) = B1 sz sto (ρ x) := by
   unfold B1
   cases hv : (ρ x).asOwn with
   | none => rfl
   | some p =>
    obtain ⟨i, a, b, c, d⟩ := p
    have e := AV.asOwn_eq hv
    simp only [hs i (by simp [e, AV.ids])]
  simp only [J9, hfresh h0, hx, hy, h1]
  cases hn : B1 sz sto (ρ x) with
  | none => rfl
  | some new =>
   cases hv : (ρ s).asOwn with
   | none => rfl
   | some p =>
    obtain ⟨i, a, b, c, d⟩ := p
    have e := AV.asOwn_eq hv
    simp only [hs i (by simp [e, AV.ids])]
 | cpy sz d s =>
  have hx := hρ d (by simp [SOp.svs])
  have hy := hρ s (by simp [SOp.svs])
  simp only [rds] at hs
  refine ⟨?_, by simp only [rds, hx, hy]⟩
  have h1 : B1 sz sto' (ρ s) = B1 sz sto (ρ s) := by
   unfold B1
   cases hv : (ρ s).asOwn with
   | none => rfl
   | some p =>
    obtain ⟨i, a, b, c, d⟩ := p
    have e := AV.asOwn_eq hv
    simp only [hs i (by simp [e, AV.ids])]
  simp only [J9, hx, hy, h1]
  cases hn : B1 sz sto (ρ s) with
  | none => rfl
  | some new =>
   cases hv : (ρ d).asOwn with
   | none => rfl
   | some p =>
    obtain ⟨i, a, b, c, d⟩ := p
    have e := AV.asOwn_eq hv
    simp only [hs i (by simp [e, AV.ids])]
 | clr sz z d =>
  have hx := hρ d (by simp [SOp.svs])
  simp only [rds] at hs
  refine ⟨?_, by simp only [rds, hx]⟩
  simp only [J9, hx]
  cases hv : (ρ d).asOwn with
  | none => rfl
  | some p =>
   obtain ⟨i, a, b, c, d⟩ := p
   have e := AV.asOwn_eq hv
   simp only [hs i (by simp [e, AV.ids])]
 | bad => exact ⟨rfl, rfl⟩
 | alloc cs =>
  have h1 := hs id (by simp [rds])
  exact ⟨by simp only [J9, hfresh h1], rfl⟩
 | box x =>
  have h1 := hs id (by simp [rds])
  have hx := hρ x (by simp [SOp.svs])
  exact ⟨by simp only [J9, hfresh h1, hx], rfl⟩
 | mksl sz bytes z l c =>
  have h1 := hs id (by simp [rds])
  have hx := hρ l (by simp [SOp.svs])
  have hy := hρ c (by simp [SOp.svs])
  exact ⟨by simp only [J9, hfresh h1, hx, hy], rfl⟩
 | mv x | nilck x | un _ x | cvi _ x | cvf _ x | ifnil _ x | fa _ x | fv _ _ _ x | ext x _ | len _ x | isnil _ x =>
  have hx := hρ x (by simp [SOp.svs])
  exact ⟨by simp only [J9, hx], rfl⟩
 | pick c a b =>
  have h1 := hρ c (by simp [SOp.svs])
  have h2 := hρ a (by simp [SOp.svs])
  have h3 := hρ b (by simp [SOp.svs])
  exact ⟨by simp only [J9, h1, h2, h3], rfl⟩
 | bin _ x y | beq _ x y | eqf _ _ x y | ia _ _ x y | ix _ x y =>
  have h1 := hρ x (by simp [SOp.svs])
  have h2 := hρ y (by simp [SOp.svs])
  exact ⟨by simp only [J9, h1, h2], rfl⟩

end Go.Sx

namespace Go.Sx
section
variable {P : Program}

/-- Two values of a kind: do they agree? -/
def eqV : EK → Value → Value → Option Bool
 | .i k, .int k1 x, .int k2 y => if k1 = k ∧ k2 = k then some (x == y) else none
 | .b, .bool x, .bool y => some (x == y)
 | .s, .string x, .string y => some (x.toList == y.toList)
 | _, _, _ => none

def A60 : List EK → List Value → List Value → Option Bool
 | [], [], [] => some true
 | k :: ks, x :: xs, y :: ys => match eqV k x y, A60 ks xs ys with
  | some a, some b => some (a && b)
  | _, _ => none
 | _, _, _ => none

theorem B2a : ∀ {ks : List EK} {xs ys : List Value} {r : Bool}, A60 ks xs ys = some r → xs.length = ks.length ∧ ys.length = ks.length
 | [], [], [], _, _ => ⟨rfl, rfl⟩
 | [], _ :: _, _, _, h => by simp [A60] at h
 | [], [], _ :: _, _, h => by simp [A60] at h
 | _ :: _, [], _, _, h => by simp [A60] at h
 | _ :: _, _ :: _, [], _, h => by simp [A60] at h
 | k :: ks, x :: xs, y :: ys, r, h => by
  simp only [A60] at h
  split at h
  ·rename_i a b h1 h2
   have := B2a h2
   simp [this.1, this.2]
  ·simp at h

theorem B52 : ∀ {ks ls : List EK} {xs ys : List Value} {r : Bool}, A60 (ks ++ ls) xs ys = some r →
  ∃ a b, A60 ks (xs.take ks.length) (ys.take ks.length) = some a ∧ A60 ls (xs.drop ks.length) (ys.drop ks.length) = some b ∧ r = (a && b)
 | [], ls, xs, ys, r, h => ⟨true, r, by simp [A60], by simpa using h, by simp⟩
 | k :: ks, ls, [], ys, r, h => by simp [A60] at h
 | k :: ks, ls, x :: xs, [], r, h => by simp [A60] at h
 | k :: ks, ls, x :: xs, y :: ys, r, h => by
  simp only [List.cons_append, A60] at h
  split at h
  ·rename_i a b h1 h2
   obtain ⟨c, d, h3, h4, h5⟩ := B52 h2
   simp at h
   refine ⟨a && c, d, ?_, by simpa using h4, by rw [← h, h5, Bool.and_assoc]⟩
   simp [A60, h1, h3]
  ·simp at h

def Q8 (P : Program) (t : TypeId) : Option Nat := (P.info? t).map (·.size)

def S5 : TypeDesc → Bool
 | .struct _ | .array _ _ => true
 | _ => false

def A3s (P : Program) (t : TypeId) : Bool := (P.underlying t).any S5

/-- The kinds of a type's cells, where it has numbers, truths and texts alone. -/
def D18 (fl : TypeId → Option (List EK)) (P : Program) : List Field → Nat → Option (List EK)
 | [], _ => some []
 | f :: fs, off => match fl f.type, D18 fl P fs (off + (Q8 P f.type).getD 0) with
  | some a, some b => if f.name ≠ "_" ∧ f.offset = off ∧ Q8 P f.type = some a.length then some (a ++ b) else none
  | _, _ => none

def C36 (P : Program) : Nat → TypeId → Option (List EK)
 | 0, _ => none
 | n + 1, t => match P.underlying t with
  | some .bool => some [.b]
  | some (.int k) => some [.i k]
  | some .string => some [.s]
  | some (.struct fs) => if P.stoodInHeld t = false then D18 (C36 P n) P fs.toList 0 else none
  | some (.array len e) => match C36 P n e with
   | some a => if Q8 P e = some a.length then some (List.replicate len a).flatten else none
   | none => none
  | _ => none

/-- The value that some cells make. -/
def A50 (agg : Bool) (vs : List Value) : Value := if agg then .agg vs.toArray else vs.headD undef

theorem O1 {t : TypeId} {n : Nat} (h : Q8 P t = some n) (w : World) : (sizeOf t).run P w = .ok n w := by
 unfold Q8 at h
 cases hi : P.info? t with
 | none => simp [hi] at h
 | some i => simp [hi] at h; simp [sizeOf, typeInfo, hi, h]

theorem C1o {t : TypeId} (h : (P.underlying t).isSome = true) (w : World) : (isAgg t).run P w = .ok (A3s P t) w := by
 obtain ⟨d, hd⟩ := Option.isSome_iff_exists.1 h
 simp only [isAgg, Sem.run_bind, run_underlying hd, Result.andThen_ok, A3s, hd, Option.any_some]
 cases d <;> rfl

theorem B9h {t : TypeId} {n : Nat} (hs : Q8 P t = some n) (hu : (P.underlying t).isSome = true) (w : World) (vs : List Value) (off : Nat) (h1 : A3s P t = false → n = 1 ∧ off < vs.length) :
  (part t vs.toArray off).run P w = .ok (A50 (A3s P t) ((vs.drop off).take n)) w := by
 simp only [part, Sem.run_bind, C1o hu, Result.andThen_ok]
 cases ha : A3s P t with
 | true =>
  simp only [if_true, Sem.run_bind, O1 hs, Result.andThen_ok, Sem.run_pure, A50]
  congr 2
  apply Array.ext'
  simp [List.take_drop]
 | false =>
  obtain ⟨hn, hlt⟩ := h1 ha; subst hn
  simp only [Bool.false_eq_true, if_false, A50]
  rw [List.getElem?_toArray, List.getElem?_eq_getElem hlt]
  simp only [Sem.run_pure]
  congr 1
  rw [List.drop_eq_getElem_cons hlt]; rfl

theorem D1p : ∀ {n : Nat} {t : TypeId} {ks : List EK}, C36 P n t = some ks → (P.underlying t).isSome = true ∧ (A3s P t = false → ks.length = 1)
 | 0, _, _, h => by simp [C36] at h
 | n + 1, t, ks, h => by
  simp only [C36] at h
  have key : ∀ d, P.underlying t = some d → (S5 d = false → ks.length = 1) → (P.underlying t).isSome = true ∧ (A3s P t = false → ks.length = 1) :=
   fun d hd hk => ⟨by rw [hd]; rfl, fun ha => hk (by unfold A3s at ha; rw [hd] at ha; simpa using ha)⟩
  split at h <;> rename_i hu
  ·exact key _ hu (fun _ => by injection h with h; rw [← h]; rfl)
  ·exact key _ hu (fun _ => by injection h with h; rw [← h]; rfl)
  ·exact key _ hu (fun _ => by injection h with h; rw [← h]; rfl)
  ·exact key _ hu (fun hx => by simp [S5] at hx)
  ·exact key _ hu (fun hx => by simp [S5] at hx)
  ·simp at h

theorem C0b (d : Nat) (t e : TypeId) (len : Nat) (xs ys : Array Value) (ht : P.underlying t = some (.array len e)) (n : Nat) (hn : Q8 P e = some n) (w : World) (f : Nat → Bool)
  (h : ∀ i, i < len → ((do let a ← part e xs (i * n); let b ← part e ys (i * n); Op.equalIn d e a b) : Sem Bool).run P w = .ok (f i) w) :
  (Op.equalIn (d + 1) t (.agg xs) (.agg ys)).run P w = .ok ((List.range len).all f) w := by
 simp only [Op.equalIn, Sem.run_bind, run_underlying ht, Result.andThen_ok, O1 hn]
 rw [Std.Legacy.Range.forIn_eq_forIn_range']
 have hsz : ([0:len] : Std.Legacy.Range).size = len := by simp [Std.Legacy.Range.size]
 rw [hsz]
 have key : ∀ (k s : Nat), s + k = len → ((forIn (List.range' s k) ((none : Option Bool), ()) fun i (_ : Option Bool × Unit) => (do
   let a ← part e xs (i * n)
   let b ← part e ys (i * n)
   let r ← Op.equalIn d e a b
   if (!r) = true then pure (ForInStep.done (some false, ())) else pure (ForInStep.yield (none, ())) : Sem (ForInStep (Option Bool × Unit)))) : Sem (Option Bool × Unit)).run P w =
    .ok (if (List.range' s k).all f then (none, ()) else (some false, ())) w := by
  intro k
  induction k with
  | zero => intro s _; simp
  | succ k ih =>
   intro s hs
   have h0 := h s (by omega)
   simp only [Sem.run_bind] at h0
   rw [List.range'_succ]
   simp only [List.forIn_cons, Sem.run_bind, List.all_cons]
   cases h1 : (part e xs (s * n)).run P w with
   | halt x w1 => simp [h1] at h0
   | ok a w1 =>
    simp only [h1, Result.andThen_ok] at h0 ⊢
    cases h2 : (part e ys (s * n)).run P w1 with
    | halt x w2 => simp [h2] at h0
    | ok b w2 =>
     simp only [h2, Result.andThen_ok] at h0 ⊢
     rw [h0]
     simp only [Result.andThen_ok]
     have ih' := ih (s + 1) (by omega)
     by_cases hf : f s = true
     ·simp only [hf, Bool.not_true, Bool.false_eq_true, if_false, Bool.true_and, Sem.run_pure, Result.andThen_ok]
      exact ih'
     ·have hf' : f s = false := by simpa using hf
      simp [hf']
 have hk := key len 0 (by omega)
 have e1 : (⟨0, len, 1, by decide⟩ : Std.Legacy.Range).start = 0 := rfl
 refine (congrArg (fun r => Result.andThen r _) hk).trans ?_
 rw [← List.range_eq_range']
 by_cases hf : (List.range len).all f = true
 ·simp [hf]
 ·have hf' : (List.range len).all f = false := by simpa using hf
  simp [hf']

theorem D13 {d : Nat} {fl : TypeId → Option (List EK)} (w : World)
  (ih : ∀ (t : TypeId) (ks : List EK), fl t = some ks → ((P.underlying t).isSome = true ∧ (A3s P t = false → ks.length = 1)) ∧ ∀ (vs us : List Value) (r : Bool), A60 ks vs us = some r → (Op.equalIn d t (A50 (A3s P t) vs) (A50 (A3s P t) us)).run P w = .ok r w)
  (vs us : List Value) : ∀ (fs : List Field) (off : Nat) (ks : List EK), D18 fl P fs off = some ks → ∀ r, A60 ks (vs.drop off) (us.drop off) = some r →
   (Op.eqFields d vs.toArray us.toArray fs).run P w = .ok r w
 | [], off, ks, h, r, he => by
  simp only [D18, Option.some.injEq] at h; subst h
  cases h1 : vs.drop off <;> cases h2 : us.drop off <;> simp [h1, h2, A60] at he
  subst he; simp [Op.eqFields]
 | f :: fs, off, ks, h, r, he => by
  simp only [D18] at h
  split at h
  ·rename_i a b h1 h2
   split at h
   ·rename_i hc
    obtain ⟨hn, ho, hs⟩ := hc
    injection h with h; subst h
    obtain ⟨p, q, hp, hq, hr⟩ := B52 he
    obtain ⟨⟨hu, h1'⟩, ih'⟩ := ih f.type a h1
    have l1 := B2a hp
    simp only [List.length_take, List.length_drop] at l1
    have g1 : A3s P f.type = false → a.length = 1 ∧ off < vs.length := fun hg => ⟨h1' hg, by have := h1' hg; omega⟩
    have g2 : A3s P f.type = false → a.length = 1 ∧ off < us.length := fun hg => ⟨h1' hg, by have := h1' hg; omega⟩
    have hrec := D13 (d := d) w ih vs us fs _ b h2 q (by simpa [hs, List.drop_drop] using hq)
    simp only [Op.eqFields, if_pos hn, ho, Sem.run_bind, B9h hs hu w vs off g1, B9h hs hu w us off g2, Result.andThen_ok, ih' _ _ p hp]
    cases p with
    | true => simpa [hr] using hrec
    | false => simp [hr]
   ·simp at h
  ·simp at h

theorem D2h {a : List EK} : ∀ {len : Nat} {vs us : List Value} {r : Bool}, A60 (List.replicate len a).flatten vs us = some r →
  ∃ f : Nat → Bool, (∀ i, i < len → A60 a ((vs.drop (i * a.length)).take a.length) ((us.drop (i * a.length)).take a.length) = some (f i)) ∧ r = (List.range len).all f
 | 0, vs, us, r, h => by
  refine ⟨fun _ => true, fun i hi => by omega, ?_⟩
  cases vs <;> cases us <;> simp [A60] at h
  simp [h]
 | len + 1, vs, us, r, h => by
  rw [List.replicate_succ, List.flatten_cons] at h
  obtain ⟨p, q, hp, hq, hr⟩ := B52 h
  obtain ⟨f, hf, hq'⟩ := D2h hq
  refine ⟨fun i => match i with | 0 => p | i + 1 => f i, fun i hi => ?_, ?_⟩
  ·cases i with
   | zero => simpa using hp
   | succ i =>
    have := hf i (by omega)
    simp only [List.drop_drop] at this
    rwa [show a.length + i * a.length = (i + 1) * a.length from by rw [Nat.add_mul]; omega] at this
  ·rw [List.range_succ_eq_map, List.all_cons, List.all_map, hr, hq']; rfl

theorem C9v (w : World) : ∀ (n : Nat) (t : TypeId) (ks : List EK), C36 P n t = some ks → ∀ (d : Nat), n ≤ d → ∀ (vs us : List Value) (r : Bool), A60 ks vs us = some r →
  (Op.equalIn d t (A50 (A3s P t) vs) (A50 (A3s P t) us)).run P w = .ok r w
 | 0, _, _, h, _, _, _, _, _, _ => by simp [C36] at h
 | n + 1, t, ks, h, 0, hd, _, _, _, _ => by omega
 | n + 1, t, ks, h, d + 1, hd, vs, us, r, he => by
  simp only [C36] at h
  split at h <;> rename_i hu
  ·injection h with h; subst h
   have ha : A3s P t = false := by simp [A3s, hu, S5]
   obtain ⟨l1, l2⟩ := B2a he
   match vs, us, l1, l2 with
   | [x], [y], _, _ =>
    simp only [A60] at he
    cases x <;> cases y <;> simp [eqV] at he
    subst he
    simp [ha, A50, Op.equalIn, run_underlying hu]
  ·injection h with h; subst h
   have ha : A3s P t = false := by simp [A3s, hu, S5]
   obtain ⟨l1, l2⟩ := B2a he
   match vs, us, l1, l2 with
   | [x], [y], _, _ =>
    simp only [A60] at he
    cases x with
    | int k1 x =>
     cases y with
     | int k2 y =>
      simp only [eqV] at he
      split at he
      ·rename_i a b h1 h2
       split at h1
       ·rename_i hk
        obtain ⟨rfl, rfl⟩ := hk
        injection h1 with h1
        simp at h2 he; subst h1; subst h2; subst he
        simp [ha, A50, Op.equalIn, run_underlying hu]
       ·simp at h1
      ·simp at he
     | _ => simp [eqV] at he
    | _ => simp [eqV] at he
  ·injection h with h; subst h
   have ha : A3s P t = false := by simp [A3s, hu, S5]
   obtain ⟨l1, l2⟩ := B2a he
   match vs, us, l1, l2 with
   | [x], [y], _, _ =>
    simp only [A60] at he
    cases x <;> cases y <;> simp [eqV] at he
    subst he
    simp [ha, A50, Op.equalIn, run_underlying hu, beq_toListBytes]
  ·rename_i fs
   split at h
   ·rename_i hst
    have ha : A3s P t = true := by simp [A3s, hu, S5]
    simp only [ha, A50, if_true]
    have hf : P.fieldsOf t = fs := by simp [Program.fieldsOf, hu]
    rw [run_equalIn_struct w d t _ _ (by rw [hf]; exact hu) hst, hf]
    exact D13 w (fun t ks ht => ⟨D1p ht, fun vs us r hr => C9v w n t ks ht d (by omega) vs us r hr⟩) vs us fs.toList 0 ks h r (by simpa using he)
   ·simp at h
  ·rename_i len e
   split at h
   ·rename_i a hfl
    split at h
    ·rename_i hs
     injection h with h; subst h
     have ha : A3s P t = true := by simp [A3s, hu, S5]
     simp only [ha, A50, if_true]
     obtain ⟨f, hf, hr⟩ := D2h he
     obtain ⟨hue, h1e⟩ := D1p hfl
     rw [hr]
     refine C0b d t e len _ _ hu a.length hs w f fun i hi => ?_
     have hi' := hf i hi
     have l1 := B2a hi'
     simp only [List.length_take, List.length_drop] at l1
     have g1 : A3s P e = false → a.length = 1 ∧ i * a.length < vs.length := fun hg => ⟨h1e hg, by have := h1e hg; omega⟩
     have g2 : A3s P e = false → a.length = 1 ∧ i * a.length < us.length := fun hg => ⟨h1e hg, by have := h1e hg; omega⟩
     simp only [Sem.run_bind, B9h hs hue w vs _ g1, B9h hs hue w us _ g2, Result.andThen_ok]
     exact C9v w n e a hfl d (by omega) _ _ _ hi'
    ·simp at h
   ·simp at h
  ·simp at h

end
end Go.Sx

namespace Go.Sx

def cst : Value → Option AV
 | .agg cs => if cs.all (·.oneCell') then some (.ag (cs.toList.map fun x => .t (.v x))) else none
 | .tuple _ => none
 | v => some (.t (.v v))

/-- Operands; G: the variables of the program whose cells are known. -/
def L9 (G : Nat → Option (List T)) : Operand → Option SV
 | .tmp k => some (.tm k)
 | .const v => (cst v).map .c
 | .func f => some (.c (.fn f [] []))
 | .global g => (G g).map fun cs => .c (.ipt cs)

def A8o (G : Nat → Option (List T)) : List Operand → Option (List SV)
 | [] => some []
 | x :: xs => match L9 G x, A8o G xs with
  | some a, some b => some (a :: b)
  | _, _ => none

def C29 (G : Nat → Option (List T)) : Option Operand → Option (Option SV)
 | none => some none
 | some x => (L9 G x).map some

def B50 (P : Program) (t : TypeId) : Option (List T) :=
 match P.info? t with
 | some i => match i.zero with
  | some z => if z.cells.all (·.oneCell') then some (z.cells.toList.map .v) else none
  | none => none
 | none => none

def C5t (P : Program) (G : Nat → Option (List T)) (fs : Array Field) : List (Nat × Operand) → Option (List (Nat × Nat × SV))
 | [] => some []
 | (i, x) :: ps => match fs[i]?, L9 G x, C5t P G fs ps with
  | some f, some a, some b => match Q8 P f.type with
   | some n => some ((f.offset, n, a) :: b)
   | none => none
  | _, _, _ => none

def C5k (G : Nat → Option (List T)) (n : Nat) : List (Nat × Operand) → Option (List (Nat × Nat × SV))
 | [] => some []
 | (i, x) :: ps => match L9 G x, C5k G n ps with
  | some a, some b => some ((i * n, n, a) :: b)
  | _, _ => none

def B56 (G : Nat → Option (List T)) : List (Nat × Operand) → Option (List (Nat × SV))
 | [] => some []
 | (i, x) :: ps => match L9 G x, B56 G ps with
  | some a, some b => some ((i, a) :: b)
  | _, _ => none

def J5 (P : Program) (G : Nat → Option (List T)) : Op → Option SOp
 | .move x | .assign x => (L9 G x).map .mv
 | .pick c a b => match L9 G c, L9 G a, L9 G b with
  | some c, some a, some b => some (.pick c a b)
  | _, _, _ => none
 | .alloc t => (B50 P t).map .alloc
 | .box _ x => (L9 G x).map .box
 | .build t ps => match B50 P t, P.underlying t with
  | some z, some (.struct fs) => if fs.all (fun f => (Q8 P f.type).isSome) then (C5t P G fs ps.toList).map (.build z) else none
  | some z, some (.array _ e) => match Q8 P e with
   | some n => (C5k G n ps.toList).map (.build z)
   | none => none
  | _, _ => none
 | .buildSlice t len ps => match P.underlying t with
  | some (.slice e) => match Q8 P e, B50 P e, B56 G ps.toList with
   | some n, some z, some ps => if z.length = n ∧ 0 < n ∧ len * n ≤ 2 ^ 24 then some (.bsl n len z ps) else none
   | _, _, _ => none
  | _ => none
 | .load t x => match P.underlying t, Q8 P t, L9 G x with
  | some d, some n, some x => some (.load (S5 d) n x)
  | _, _, _ => none
 | .store t x v => match Q8 P t, L9 G x, L9 G v with
  | some n, some x, some v => some (.store n x v)
  | _, _, _ => none
 | .nilCheck x => (L9 G x).map .nilck
 | .binOp op t x y _ => match P.underlying t, L9 G x, L9 G y with
  | some (.int _), some x, some y => some (.bin op x y)
  | some .string, some x, some y => some (.bin op x y)
  | some (.float _), some x, some y => some (.bin op x y)
  | some (.interface _), some x, some (.c (.t (.v .nilIface))) => match op with
   | .eql => some (.ifnil false x)
   | .neq => some (.ifnil true x)
   | _ => none
  | some (.slice _), some x, some (.c (.t (.v (.slice none 0 0)))) => match op with
   | .eql => some (.isnil false x)
   | .neq => some (.isnil true x)
   | _ => none
  | some .bool, some x, some y => match op with
   | .eql => some (.beq false x y)
   | .neq => some (.beq true x y)
   | _ => none
  | some (.struct _), some x, some y => if P.eqGuardType P.depth t = false then (match op, C36 P 20 t with
   | .eql, some ks => some (.eqf false ks x y)
   | .neq, some ks => some (.eqf true ks x y)
   | _, _ => none) else none
  | some (.array _ _), some x, some y => if P.eqGuardType P.depth t = false then (match op, C36 P 20 t with
   | .eql, some ks => some (.eqf false ks x y)
   | .neq, some ks => some (.eqf true ks x y)
   | _, _ => none) else none
  | _, _, _ => none
 | .unOp op _ x => (L9 G x).map (.un op)
 | .convert s d x => match P.underlying s, P.underlying d, L9 G x with
  | some (.int _), some (.int k), some x => some (.cvi k x)
  | some (.int _), some (.float k), some x => some (.cvf k x)
  | _, _, _ => none
 | .fieldAddr t x i => match P.underlying t with
  | some (.struct fs) => match fs[i]?, L9 G x with
   | some f, some x => match Q8 P f.type with
    | some n => if n ≠ 0 then some (.fa f.offset x) else none
    | none => none
   | _, _ => none
  | _ => none
 | .field t x i => match P.underlying t with
  | some (.struct fs) => match fs[i]?, L9 G x with
   | some f, some x => match Q8 P f.type, P.underlying f.type with
    | some n, some d => some (.fv (S5 d) f.offset n x)
    | _, _ => none
   | _, _ => none
  | _ => none
 | .indexAddr t x i => match P.underlying t, L9 G x, L9 G i with
  | some (.array len e), some x, some i => (Q8 P e).map fun n => .ia (some len) n x i
  | some (.slice e), some x, some i => (Q8 P e).map fun n => .ia none n x i
  | _, _, _ => none
 | .index t x i => match P.underlying t, L9 G x, L9 G i with
  | some (.array len e), some x, some i => match Q8 P e, P.underlying e with
   | some n, some d => some (.ix (some (len, n, S5 d)) x i)
   | _, _ => none
  | some .string, some x, some i => some (.ix none x i)
  | _, _, _ => none
 | .extract x i => (L9 G x).map fun x => .ext x i
 | .makeFunc (.func f) first caps => match A8o G first.toList, A8o G caps.toList with
  | some a, some b => some (.mkfunc f a b)
  | _, _ => none
 | .makeSlice t l c => match P.underlying t with
  | some (.slice e) => match P.info? e, B50 P e, L9 G l, L9 G c with
   | some i, some z, some l, some c => if z.length = i.size ∧ 0 < i.size then some (.mksl i.size i.bytes z l c) else none
   | _, _, _, _ => none
  | _ => none
 | .slice t x lo hi none => match P.underlying t, L9 G x, C29 G lo, C29 G hi with
  | some .string, some x, some lo, some hi => some (.sli 0 x lo hi)
  | some (.slice e), some x, some lo, some hi => match Q8 P e with
   | some n => if n ≠ 0 then some (.sli n x lo hi) else none
   | none => none
  | _, _, _, _ => none
 | .call ⟨.builtin .len, args, ts⟩ => match ts[0]?, args[0]? with
  | some t, some x => match P.underlying t with
   | some .string => (L9 G x).map (.len true)
   | some (.slice _) => (L9 G x).map (.len false)
   | _ => none
  | _, _ => none
 | .call ⟨.builtin .append, args, ts⟩ => match ts[0]?, ts[1]?, args[0]?, args[1]? with
  | some t, some u, some s, some x => match P.underlying t, P.underlying u with
   | some (.slice e), some (.slice _) => match P.info? e, B50 P e, L9 G s, L9 G x with
    | some i, some z, some s, some x => if z.length = i.size ∧ 0 < i.size ∧ 0 < i.bytes then some (.app i.size i.bytes s x) else none
    | _, _, _, _ => none
   | _, _ => none
  | _, _, _, _ => none
 | .call ⟨.builtin .copy, args, ts⟩ => match ts[0]?, args[0]?, args[1]? with
  | some t, some d, some s => match P.underlying t with
   | some (.slice e) => match Q8 P e, L9 G d, L9 G s with
    | some n, some d, some s => some (.cpy n d s)
    | _, _, _ => none
   | _ => none
  | _, _, _ => none
 | .call ⟨.builtin .clear, args, ts⟩ => match ts[0]?, args[0]? with
  | some t, some d => match P.underlying t with
   | some (.slice e) => match P.info? e, B50 P e, L9 G d with
    | some i, some z, some d => if z.length = i.size ∧ 0 < i.size then some (.clr i.size z d) else none
    | _, _, _ => none
   | _ => none
  | _, _ => none
 | .call ⟨.builtin .max, args, _⟩ => (A8o G args.toList).map (.minmax true)
 | .call ⟨.builtin .min, args, _⟩ => (A8o G args.toList).map (.minmax false)
 | _ => none

def GOK (E : Env) (G : Nat → Option (List T)) : Prop := ∀ g cs, G g = some cs → E.gb g ∧ ∀ A w, E.gi w → (∀ b, E.gb b → A b) → D0 A w g 0 cs

/-- What a step has done. -/
structure Did (E : Env) (F : Frm) (sto : Nat → Option Ob) (A : Nat → Prop) (φ : Nat → Nat) (w : World) (x : AV) (v : Value) (sto' : Nat → Option Ob) (w' : World) (A' : Nat → Prop) (φ' : Nat → Nat) : Prop where
 rs : RS E F sto' w' A' φ'
 go : Goes A A' w w'
 ph : ∀ id, (sto id).isSome = true → φ' id = φ id
 mo : ∀ id, (sto id).isSome = true → (sto' id).isSome = true
 ca : CA A' φ' w' x v
 nd : ∀ i ∈ x.ids, (sto' i).isSome = true

theorem Did.same {E : Env} {F : Frm} {sto : Nat → Option Ob} {A : Nat → Prop} {φ : Nat → Nat} {w : World} {x : AV} {v : Value} (h : RS E F sto w A φ) (hc : CA A φ w x v) (hn : ∀ i ∈ x.ids, (sto i).isSome = true) :
  Did E F sto A φ w x v sto w A φ := ⟨h, Goes.refl A w, fun _ _ => rfl, fun _ h => h, hc, hn⟩

theorem E2e {A : Nat → Prop} {φ : Nat → Nat} {w : World} : ∀ {v : Value} {x : AV}, cst v = some x → CA A φ w x v ∧ x.ids = [] := by
 intro v x h
 cases v with
 | agg cs =>
  simp only [cst] at h
  split at h
  ·rename_i hc
   injection h with h; subst h
   refine ⟨?_, ?_⟩
   ·simp only [CA]
    refine ⟨cs, rfl, H7.iff.2 ⟨by simp, fun i x hx => ?_⟩⟩
    simp only [List.getElem?_map] at hx
    cases hy : cs.toList[i]? with
    | none => simp [hy] at hx
    | some y =>
     simp [hy] at hx; subst hx
     refine ⟨y, rfl, ?_⟩
     simp only [CA, CT, true_and]
     have hm : y ∈ cs := by
      rw [← Array.mem_toList_iff]; exact List.mem_of_getElem? hy
     exact (Array.all_eq_true_iff_forall_mem.1 hc) y hm
   ·simp only [AV.ids]
    generalize cs.toList = l
    induction l with
    | nil => rfl
    | cons a l ih => simp [B5, AV.ids, ih]
  ·simp at h
 | tuple vs => simp [cst] at h
 | _ => simp only [cst, Option.some.injEq] at h; subst h; simp [CA, CT, AV.ids, Value.oneCell']

section
variable {P : Program} {E : Env} {G : Nat → Option (List T)} {F : Frm} {st : St} {n : Nat} {a : Act} {w : World} {A : Nat → Prop} {φ : Nat → Nat} {ds : List Deferred}

theorem M9 (hG : GOK E G) (h : RS E F st.sto w A φ) (r : RE ds st n a w A φ) {x : Operand} {sv : SV} (hx : L9 G x = some sv) :
  CA A φ w (sv.ev st.env) (a.eval x) ∧ ∀ id ∈ (sv.ev st.env).ids, (st.sto id).isSome = true := by
 cases x with
 | tmp k => simp only [L9, Option.some.injEq] at hx; subst hx; exact ⟨r.val k, r.nod k⟩
 | const v =>
  simp only [L9] at hx
  cases hc : cst v with
  | none => simp [hc] at hx
  | some y =>
   simp [hc] at hx; subst hx
   have := E2e (A := A) (φ := φ) (w := w) hc
   exact ⟨this.1, fun id hid => by simp only [SV.ev, this.2] at hid; simp at hid⟩
 | func f =>
  simp only [L9, Option.some.injEq] at hx; subst hx
  exact ⟨by simp only [SV.ev, CA, H7, Act.eval]; exact ⟨#[], #[], rfl, rfl, rfl⟩, by simp [SV.ev, AV.ids, B5]⟩
 | global g =>
  simp only [L9] at hx
  cases hc : G g with
  | none => simp [hc] at hx
  | some cs =>
   simp [hc] at hx; subst hx
   obtain ⟨h1, h2⟩ := hG g cs hc
   exact ⟨by simp only [SV.ev, CA, Act.eval]; exact ⟨g, 0, rfl, h.gA g h1, h2 A w h.gi h.gA⟩, by simp [SV.ev, AV.ids]⟩

theorem C1k (hG : GOK E G) (h : RS E F st.sto w A φ) (r : RE ds st n a w A φ) : ∀ {xs : List Operand} {svs : List SV}, A8o G xs = some svs →
  H7 A φ w (svs.map (·.ev st.env)) (xs.map a.eval) ∧ ∀ id ∈ B5 (svs.map (·.ev st.env)), (st.sto id).isSome = true
 | [], svs, hx => by simp only [A8o, Option.some.injEq] at hx; subst hx; simp [H7, B5]
 | x :: xs, svs, hx => by
  simp only [A8o] at hx
  split at hx
  ·rename_i p q h1 h2
   injection hx with hx; subst hx
   have e1 := M9 hG h r h1
   have e2 := C1k hG h r h2
   refine ⟨?_, ?_⟩
   ·simp only [List.map_cons, H7]; exact ⟨_, _, rfl, e1.1, e2.1⟩
   ·intro id hid
    simp only [List.map_cons, B5, List.mem_append] at hid
    exact hid.elim (e1.2 id) (e2.2 id)
  ·simp at hx
end

end Go.Sx
