/- The abstract state, and when it stands for a world: what each step keeps. No statement of a seat is proved here. -/
import Derived.Test.YtgnokggmbkhnbaaSxBase
set_option linter.unusedSimpArgs false
set_option linter.unusedVariables false
namespace Go.Sx

def upd {α : Type} (f : Nat → α) (k : Nat) (v : α) : Nat → α := fun i => if i = k then v else f i
@[simp] theorem upd_same {α : Type} (f : Nat → α) (k : Nat) (v : α) : upd f k v k = v := by simp [upd]
theorem upd_ne {α : Type} (f : Nat → α) {k i : Nat} (v : α) (h : i ≠ k) : upd f k v i = f i := by simp [upd, h]

structure St where
  env : Nat → AV
  sto : Nat → Option Ob

/-- What is known of all worlds (tables that the program lays), and the blocks that it speaks of. -/
structure Env where
  gi : World → Prop
  gb : Nat → Prop
  stable : ∀ w w' : World, (∀ b, gb b → w'.heap[b]? = w.heap[b]?) → gi w → gi w'

/-- How the call began: its world, the blocks that are not to be written, the blocks of the objects that were handed in to be changed. -/
structure Frm where
  w : World
  A : Nat → Prop
  φ : Nat → Nat
  io : List Nat

structure RS (E : Env) (F : Frm) (sto : Nat → Option Ob) (w : World) (A : Nat → Prop) (φ : Nat → Nat) : Prop where
  nod : ∀ id o, sto id = some o → ∀ j ∈ o.ids, (sto j).isSome = true
  obj : ∀ id o, sto id = some o → CO A φ w (φ id) o
  liv : ∀ id o, sto id = some o → o.live = true → ¬ A (φ id) ∧ φ id < w.heap.size ∧ ((id ∈ F.io ∧ φ id = F.φ id) ∨ F.w.heap.size ≤ φ id)
  inj : ∀ i j oi oj, sto i = some oi → sto j = some oj → oi.live = true → oj.live = true → i ≠ j → φ i ≠ φ j
  alt : ∀ b, A b → b < w.heap.size
  gi : E.gi w
  gA : ∀ b, E.gb b → A b
  os : w.os = F.w.os
  tape : w.tape = F.w.tape
  output : w.output = F.w.output
  size : F.w.heap.size ≤ w.heap.size
  old : ∀ b, b < F.w.heap.size → (∀ id ∈ F.io, F.φ id ≠ b) → w.heap[b]? = F.w.heap[b]?
  asub : ∀ b, F.A b → A b
  anew : ∀ b, A b → F.A b ∨ F.w.heap.size ≤ b
  cap : ∀ b n, RowCap F.w b n → RowCap w b n
  ioc : ∀ id ∈ F.io, id < 100
  iok : ∀ id o, sto id = some o → o.live = true → id ∈ F.io → φ id = F.φ id

theorem CAs.mem {A : Nat → Prop} {φ : Nat → Nat} {w : World} : ∀ {xs : List AV} {ys : List Value}, CAs A φ w xs ys → ∀ y ∈ ys, ∃ x ∈ xs, CA A φ w x y
  | [], _, h, y, hy => by simp only [CAs] at h; subst h; simp at hy
  | x :: xs, _, h, y, hy => by
    simp only [CAs] at h; obtain ⟨z, zs, rfl, h1, h2⟩ := h
    rcases List.mem_cons.1 hy with rfl | hy
    · exact ⟨x, by simp, h1⟩
    · obtain ⟨u, hu, hc⟩ := CAs.mem h2 y hy; exact ⟨u, by simp [hu], hc⟩

theorem CO.goes {A A' : Nat → Prop} {φ φ' : Nat → Nat} {w w' : World} (h : Goes A A' w w') {b : Nat} : ∀ (o : Ob), (∀ id ∈ o.ids, φ' id = φ id) → (o.live = true → w'.heap[b]? = w.heap[b]?) → CO A φ w b o → CO A' φ' w' b o
  | .box cs, hi, hb, hx => by
    simp only [CO] at hx ⊢; obtain ⟨ys, e, h1, h2, h3⟩ := hx
    exact ⟨ys, e, by rw [hb rfl]; exact h1, CAs.goes h cs _ (by simpa only [Ob.ids] using hi) h2, h3⟩
  | .row sz r es, hi, hb, hx => by
    simp only [CO] at hx ⊢
    refine ⟨hx.1, fun hr => ?_⟩
    obtain ⟨⟨ys, e, h1⟩, h2⟩ := hx.2 hr
    have hb' := hb (by simpa [Ob.live] using hr)
    exact ⟨⟨ys, e, by rw [hb']; exact h1⟩, CRows.keeps h.keeps hb' sz 0 es h2⟩
  | .fro sz es, hi, hb, hx => by
    simp only [CO] at hx ⊢
    exact ⟨(h.keeps b hx.1).1, CRows.keeps h.keeps (h.keeps b hx.1).2 sz 0 es hx.2⟩
  | .dead, _, _, _ => by simp only [CO]

theorem heap_lt {w : World} {b : Nat} {o : Obj} (h : w.heap[b]? = some o) : b < w.heap.size := by
  rcases Nat.lt_or_ge b w.heap.size with h' | h'
  · exact h'
  · simp [Array.getElem?_eq_none h'] at h

theorem RowCap.lt {w : World} {b n : Nat} (h : RowCap w b n) : b < w.heap.size := by
  obtain ⟨cs, e, h, _⟩ := h; exact heap_lt h

theorem RowCap.of_heap {w w' : World} {b n : Nat} (h : w'.heap[b]? = w.heap[b]?) (k : RowCap w b n) : RowCap w' b n := by
  unfold RowCap at *; rw [h]; exact k

theorem hao (w : World) (o : Obj) (i : Nat) (h : i < w.heap.size) : (w.alloc o).heap[i]? = w.heap[i]? := by
  show (w.heap.push o)[i]? = w.heap[i]?
  rw [Array.getElem?_push, if_neg (Nat.ne_of_lt h)]

theorem goes_alloc {A : Nat → Prop} {w : World} (hA : ∀ b, A b → b < w.heap.size) (o : Obj) : Goes A A w (w.alloc o) :=
  ⟨fun b hb => ⟨hb, hao w o b (hA b hb)⟩, fun b _ hb => RowCap.of_heap (hao w o b hb.lt) hb⟩

theorem goes_drew (A : Nat → Prop) (w : World) : Goes A A w w.drew := ⟨fun _ h => ⟨h, rfl⟩, fun _ _ h => h⟩

theorem goes_setRow {A : Nat → Prop} {w : World} {b : Nat} {ys ys' : Array Value} {e : TypeId} (hb : w.heap[b]? = some (.cells ys e (0, 0))) (hs : ys'.size = ys.size) (hA : ¬ A b) : Goes A A w (w.setRow b ys') := by
  refine ⟨fun k hk => ⟨hk, setRow_other w b k ys' (fun e => hA (e ▸ hk))⟩, fun k n hk => ?_⟩
  by_cases hkb : k = b
  · subst hkb
    obtain ⟨cs, e', h1, h2⟩ := hk
    rw [hb] at h1; injection h1 with h1; injection h1 with h1 h3; subst h1
    exact ⟨ys', e, setRow_heap w k ys ys' e (0, 0) hb, by omega⟩
  · exact RowCap.of_heap (setRow_other w b k ys' hkb) hk

section
variable {E : Env} {F : Frm} {sto : Nat → Option Ob} {w : World} {A : Nat → Prop} {φ : Nat → Nat}

theorem RS.drew (h : RS E F sto w A φ) : RS E F sto w.drew A φ where
  nod := h.nod
  obj := fun id o ho => CO.goes (goes_drew A w) o (fun _ _ => rfl) (fun _ => rfl) (h.obj id o ho)
  liv := h.liv
  inj := h.inj
  alt := h.alt
  gi := E.stable w _ (fun _ _ => rfl) h.gi
  gA := h.gA
  os := h.os
  tape := h.tape
  output := h.output
  size := h.size
  old := h.old
  asub := h.asub
  anew := h.anew
  cap := h.cap
  ioc := h.ioc
  iok := h.iok

theorem ids_ne (h : RS E F sto w A φ) {id : Nat} (hn : sto id = none) {i : Nat} {o : Ob} (ho : sto i = some o) : ∀ j ∈ o.ids, j ≠ id := by
  intro j hj e
  have := h.nod i o ho j hj
  rw [e, hn] at this; simp at this

theorem RS.alloc (h : RS E F sto w A φ) {id : Nat} (hn : sto id = none) (h100 : 100 ≤ id) (ys : Array Value) (e : TypeId) (ob : Ob)
    (hid : ∀ j ∈ ob.ids, (sto j).isSome = true) (ho : CO A (upd φ id w.heap.size) (w.alloc (.cells ys e)) w.heap.size ob) :
    RS E F (upd sto id (some ob)) (w.alloc (.cells ys e)) A (upd φ id w.heap.size) where
  nod := fun i o hi j hj => by
    by_cases hji : j = id
    · simp [upd, hji]
    rw [upd_ne _ _ hji]
    by_cases hid' : i = id
    · subst hid'; simp at hi; subst hi; exact hid j hj
    · rw [upd_ne _ _ hid'] at hi; exact h.nod i o hi j hj
  obj := fun i o hi => by
    by_cases hid' : i = id
    · subst hid'; simp at hi; subst hi; simpa using ho
    · rw [upd_ne _ _ hid'] at hi
      rw [upd_ne _ _ hid']
      refine CO.goes (goes_alloc h.alt _) o (fun j hj => upd_ne _ _ (ids_ne h hn hi j hj)) (fun hl => hao w _ _ (h.liv i o hi hl).2.1) (h.obj i o hi)
  liv := fun i o hi hl => by
    by_cases hid' : i = id
    · subst hid'; simp
      exact ⟨fun ha => Nat.lt_irrefl _ (h.alt _ ha), Or.inr h.size⟩
    · rw [upd_ne _ _ hid'] at hi
      rw [upd_ne _ _ hid']
      have := h.liv i o hi hl
      exact ⟨this.1, by simp; omega, this.2.2⟩
  inj := fun i j oi oj hi hj li lj hij => by
    by_cases h1 : i = id
    · subst h1
      rw [upd_ne _ _ (Ne.symm hij)] at hj
      rw [upd_same, upd_ne _ _ (Ne.symm hij)]
      have := (h.liv j oj hj lj).2.1; omega
    · rw [upd_ne _ _ h1] at hi
      by_cases h2 : j = id
      · subst h2
        rw [upd_same, upd_ne _ _ hij]
        have := (h.liv i oi hi li).2.1; omega
      · rw [upd_ne _ _ h2] at hj
        rw [upd_ne _ _ h1, upd_ne _ _ h2]
        exact h.inj i j oi oj hi hj li lj hij
  alt := fun b hb => by have := h.alt b hb; simp; omega
  gi := E.stable w _ (fun b hb => hao w _ _ (h.alt b (h.gA b hb))) h.gi
  gA := h.gA
  os := h.os
  tape := h.tape
  output := h.output
  size := by have := h.size; simp; omega
  old := fun b hb hne => (hao w _ _ (Nat.lt_of_lt_of_le hb h.size)).trans (h.old b hb hne)
  asub := h.asub
  anew := h.anew
  cap := fun b n hb => (goes_alloc h.alt _).cap b n (h.cap b n hb)
  ioc := h.ioc
  iok := fun i o hi hl hio => by
    by_cases hid' : i = id
    · subst hid'; have := h.ioc i hio; omega
    · rw [upd_ne _ _ hid'] at hi ⊢
      exact h.iok i o hi hl hio

theorem RS.write (h : RS E F sto w A φ) {id : Nat} {o0 ob : Ob} (hs : sto id = some o0) (hl0 : o0.live = true) {ys ys' : Array Value} {e : TypeId}
    (hb : w.heap[φ id]? = some (.cells ys e (0, 0))) (hsz : ys'.size = ys.size) (hid : ∀ j ∈ ob.ids, (sto j).isSome = true)
    (ho : CO A φ (w.setRow (φ id) ys') (φ id) ob) : RS E F (upd sto id (some ob)) (w.setRow (φ id) ys') A φ := by
  have hg : Goes A A w (w.setRow (φ id) ys') := goes_setRow hb hsz (h.liv id o0 hs hl0).1
  exact {
    nod := fun i o hi j hj => by
      by_cases hji : j = id
      · simp [upd, hji]
      rw [upd_ne _ _ hji]
      by_cases hid' : i = id
      · subst hid'; simp at hi; subst hi; exact hid j hj
      · rw [upd_ne _ _ hid'] at hi; exact h.nod i o hi j hj
    obj := fun i o hi => by
      by_cases hid' : i = id
      · subst hid'; simp at hi; subst hi; exact ho
      · rw [upd_ne _ _ hid'] at hi
        exact CO.goes hg o (fun _ _ => rfl) (fun hl => setRow_other w _ _ _ (h.inj i id o o0 hi hs hl hl0 hid')) (h.obj i o hi)
    liv := fun i o hi hl => by
      have hsz : (w.setRow (φ id) ys').heap.size = w.heap.size := setRow_size w _ _
      rw [hsz]
      by_cases hid' : i = id
      · subst hid'; exact h.liv i o0 hs hl0
      · rw [upd_ne _ _ hid'] at hi; exact h.liv i o hi hl
    inj := fun i j oi oj hi hj li lj hij => by
      have fi : ∃ o, sto i = some o ∧ o.live = true := by
        by_cases h1 : i = id
        · exact ⟨o0, h1 ▸ hs, hl0⟩
        · rw [upd_ne _ _ h1] at hi; exact ⟨oi, hi, li⟩
      have fj : ∃ o, sto j = some o ∧ o.live = true := by
        by_cases h1 : j = id
        · exact ⟨o0, h1 ▸ hs, hl0⟩
        · rw [upd_ne _ _ h1] at hj; exact ⟨oj, hj, lj⟩
      obtain ⟨a, ha, la⟩ := fi
      obtain ⟨b, hb, lb⟩ := fj
      exact h.inj i j a b ha hb la lb hij
    alt := fun b hb => by rw [setRow_size]; exact h.alt b hb
    gi := E.stable w _ (fun b hb => (hg.keeps b (h.gA b hb)).2) h.gi
    gA := h.gA
    os := h.os
    tape := h.tape
    output := h.output
    size := by rw [setRow_size]; exact h.size
    old := fun b hb hne => by
      refine (setRow_other w _ _ _ ?_).trans (h.old b hb hne)
      rcases (h.liv id o0 hs hl0).2.2 with ⟨h1, h2⟩ | h1
      · exact fun e => hne id h1 (by rw [← h2, e])
      · omega
    asub := h.asub
    anew := h.anew
    cap := fun b n hb => hg.cap b n (h.cap b n hb)
    ioc := h.ioc
    iok := fun i o hi hl hio => by
      by_cases hid' : i = id
      · subst hid'; exact h.iok i o0 hs hl0 hio
      · rw [upd_ne _ _ hid'] at hi; exact h.iok i o hi hl hio }

/-- An object that is not met again. -/
theorem RS.kill (h : RS E F sto w A φ) {id : Nat} {o0 : Ob} (hs : sto id = some o0) : RS E F (upd sto id (some .dead)) w A φ where
  nod := fun i o hi j hj => by
    by_cases hid' : i = id
    · subst hid'; simp at hi; subst hi; simp [Ob.ids] at hj
    · rw [upd_ne _ _ hid'] at hi
      by_cases hji : j = id
      · simp [upd, hji]
      · rw [upd_ne _ _ hji]; exact h.nod i o hi j hj
  obj := fun i o hi => by
    by_cases hid' : i = id
    · subst hid'; simp at hi; subst hi; simp [CO]
    · rw [upd_ne _ _ hid'] at hi; exact h.obj i o hi
  liv := fun i o hi hl => by
    by_cases hid' : i = id
    · subst hid'; simp at hi; subst hi; simp [Ob.live] at hl
    · rw [upd_ne _ _ hid'] at hi; exact h.liv i o hi hl
  inj := fun i j oi oj hi hj li lj hij => by
    by_cases h1 : i = id
    · subst h1; simp at hi; subst hi; simp [Ob.live] at li
    · by_cases h2 : j = id
      · subst h2; simp at hj; subst hj; simp [Ob.live] at lj
      · rw [upd_ne _ _ h1] at hi; rw [upd_ne _ _ h2] at hj; exact h.inj i j oi oj hi hj li lj hij
  alt := h.alt
  gi := h.gi
  gA := h.gA
  os := h.os
  tape := h.tape
  output := h.output
  size := h.size
  old := h.old
  asub := h.asub
  anew := h.anew
  cap := h.cap
  ioc := h.ioc
  iok := fun i o hi hl hio => by
    by_cases hid' : i = id
    · subst hid'; simp at hi; subst hi; simp [Ob.live] at hl
    · rw [upd_ne _ _ hid'] at hi; exact h.iok i o hi hl hio

/-- A row of one's own that is written no more. -/
theorem RS.freeze (h : RS E F sto w A φ) {id sz : Nat} {es : List (List T)} (hs : sto id = some (.row sz true es)) (hio : id ∉ F.io) :
    RS E F (upd sto id (some (.fro sz es))) w (fun b => A b ∨ b = φ id) φ := by
  have hl := h.liv id _ hs rfl
  have hg : Goes A (fun b => A b ∨ b = φ id) w w := ⟨fun _ hb => ⟨Or.inl hb, rfl⟩, fun _ _ hb => hb⟩
  have hne : ∀ i o, upd sto id (some (.fro sz es)) i = some o → o.live = true → i ≠ id ∧ sto i = some o := by
    intro i o hi hl
    by_cases hid' : i = id
    · subst hid'; simp at hi; subst hi; simp [Ob.live] at hl
    · rw [upd_ne _ _ hid'] at hi; exact ⟨hid', hi⟩
  exact {
    nod := fun i o hi j hj => by
      by_cases hid' : i = id
      · subst hid'; simp at hi; subst hi; simp [Ob.ids] at hj
      · rw [upd_ne _ _ hid'] at hi
        by_cases hji : j = id
        · simp [upd, hji]
        · rw [upd_ne _ _ hji]; exact h.nod i o hi j hj
    obj := fun i o hi => by
      by_cases hid' : i = id
      · subst hid'; simp at hi; subst hi
        have := h.obj i _ hs
        simp only [CO] at this
        show (A (φ i) ∨ φ i = φ i) ∧ _
        exact ⟨Or.inr rfl, CRows.keeps hg.keeps rfl sz 0 es (this.2 trivial).2⟩
      · rw [upd_ne _ _ hid'] at hi
        exact CO.goes hg o (fun _ _ => rfl) (fun _ => rfl) (h.obj i o hi)
    liv := fun i o hi hli => by
      obtain ⟨h1, h2⟩ := hne i o hi hli
      have := h.liv i o h2 hli
      refine ⟨fun ha => ?_, this.2⟩
      rcases ha with ha | ha
      · exact this.1 ha
      · exact h.inj i id o _ h2 hs hli rfl h1 ha
    inj := fun i j oi oj hi hj li lj hij => h.inj i j oi oj (hne i oi hi li).2 (hne j oj hj lj).2 li lj hij
    alt := fun b hb => by
      rcases hb with hb | hb
      · exact h.alt b hb
      · rw [hb]; exact hl.2.1
    gi := h.gi
    gA := fun b hb => Or.inl (h.gA b hb)
    os := h.os
    tape := h.tape
    output := h.output
    size := h.size
    old := h.old
    asub := fun b hb => Or.inl (h.asub b hb)
    anew := fun b hb => by
      rcases hb with hb | hb
      · exact h.anew b hb
      · rcases hl.2.2 with ⟨h1, _⟩ | h1
        · exact absurd h1 hio
        · exact Or.inr (by rw [hb]; exact h1)
    cap := h.cap
    ioc := h.ioc
    iok := fun i o hi hl hio => h.iok i o (hne i o hi hl).2 hl hio }

/-- A row of nothing, that has no memory yet. -/
theorem RS.virt (h : RS E F sto w A φ) {id sz : Nat} (hn : sto id = none) : RS E F (upd sto id (some (.row sz false []))) w A φ := by
  have hne : ∀ i o, upd sto id (some (.row sz false [])) i = some o → o.live = true → sto i = some o := by
    intro i o hi hl
    by_cases hid' : i = id
    · subst hid'; simp at hi; subst hi; simp [Ob.live] at hl
    · rwa [upd_ne _ _ hid'] at hi
  exact {
    nod := fun i o hi j hj => by
      by_cases hid' : i = id
      · subst hid'; simp at hi; subst hi; simp [Ob.ids] at hj
      · rw [upd_ne _ _ hid'] at hi
        by_cases hji : j = id
        · simp [upd, hji]
        · rw [upd_ne _ _ hji]; exact h.nod i o hi j hj
    obj := fun i o hi => by
      by_cases hid' : i = id
      · subst hid'; simp at hi; subst hi; simp [CO]
      · rw [upd_ne _ _ hid'] at hi; exact h.obj i o hi
    liv := fun i o hi hli => h.liv i o (hne i o hi hli) hli
    inj := fun i j oi oj hi hj li lj hij => h.inj i j oi oj (hne i oi hi li) (hne j oj hj lj) li lj hij
    alt := h.alt
    gi := h.gi
    gA := h.gA
    os := h.os
    tape := h.tape
    output := h.output
    size := h.size
    old := h.old
    asub := h.asub
    anew := h.anew
    cap := h.cap
    ioc := h.ioc
    iok := fun i o hi hl hio => h.iok i o (hne i o hi hl) hl hio }

/-- A block that nobody else owns becomes an object's. -/
theorem RS.adopt (h : RS E F sto w A φ) {id b : Nat} {ob : Ob} (hn : sto id = none) (h100 : 100 ≤ id) (hA : ¬ A b) (hlt : b < w.heap.size) (hF : F.w.heap.size ≤ b)
    (hne : ∀ i o, sto i = some o → o.live = true → φ i ≠ b) (hid : ob.ids = []) (ho : CO A (upd φ id b) w b ob) : RS E F (upd sto id (some ob)) w A (upd φ id b) where
  nod := fun i o hi j hj => by
    by_cases hji : j = id
    · simp [upd, hji]
    rw [upd_ne _ _ hji]
    by_cases hid' : i = id
    · subst hid'; simp at hi; subst hi; rw [hid] at hj; simp at hj
    · rw [upd_ne _ _ hid'] at hi; exact h.nod i o hi j hj
  obj := fun i o hi => by
    by_cases hid' : i = id
    · subst hid'; simp at hi; subst hi; simpa using ho
    · rw [upd_ne _ _ hid'] at hi
      rw [upd_ne _ _ hid']
      exact CO.goes (Goes.refl A w) o (fun j hj => upd_ne _ _ (ids_ne h hn hi j hj)) (fun _ => rfl) (h.obj i o hi)
  liv := fun i o hi hl => by
    by_cases hid' : i = id
    · subst hid'; simp; exact ⟨hA, hlt, Or.inr hF⟩
    · rw [upd_ne _ _ hid'] at hi
      rw [upd_ne _ _ hid']
      exact h.liv i o hi hl
  inj := fun i j oi oj hi hj li lj hij => by
    by_cases h1 : i = id
    · subst h1
      rw [upd_ne _ _ (Ne.symm hij)] at hj
      rw [upd_same, upd_ne _ _ (Ne.symm hij)]
      exact fun e => hne j oj hj lj e.symm
    · rw [upd_ne _ _ h1] at hi
      by_cases h2 : j = id
      · subst h2
        rw [upd_same, upd_ne _ _ hij]
        exact hne i oi hi li
      · rw [upd_ne _ _ h2] at hj
        rw [upd_ne _ _ h1, upd_ne _ _ h2]
        exact h.inj i j oi oj hi hj li lj hij
  alt := h.alt
  gi := h.gi
  gA := h.gA
  os := h.os
  tape := h.tape
  output := h.output
  size := h.size
  old := h.old
  asub := h.asub
  anew := h.anew
  cap := h.cap
  ioc := h.ioc
  iok := fun i o hi hl hio => by
    by_cases hid' : i = id
    · subst hid'; have := h.ioc i hio; omega
    · rw [upd_ne _ _ hid'] at hi ⊢
      exact h.iok i o hi hl hio
end

/-- The frame's slots. -/
structure RE (st : St) (n : Nat) (a : Act) (w : World) (A : Nat → Prop) (φ : Nat → Nat) : Prop where
  size : a.tmps.size = n
  defers : a.defers = []
  val : ∀ k, CA A φ w (st.env k) (a.tmps.getD k undef)
  nod : ∀ k, ∀ id ∈ (st.env k).ids, (st.sto id).isSome = true

theorem getD_set (xs : Array Value) (d k : Nat) (v u : Value) (h : d < xs.size) : (xs.setIfInBounds d v).getD k u = if k = d then v else xs.getD k u := by
  simp only [Array.getD_eq_getD_getElem?, Array.getElem?_setIfInBounds]
  by_cases hk : k = d
  · simp [hk, h]
  · simp [hk, Ne.symm hk]

theorem RE.put {st : St} {n : Nat} {a : Act} {w w' : World} {A A' : Nat → Prop} {φ φ' : Nat → Nat} (h : RE st n a w A φ) {d : Nat} (hd : d < n) {x : AV} {v : Value} {sto' : Nat → Option Ob}
    (hg : Goes A A' w w') (hφ : ∀ id, (st.sto id).isSome = true → φ' id = φ id) (hs : ∀ id, (st.sto id).isSome = true → (sto' id).isSome = true)
    (hx : CA A' φ' w' x v) (hi : ∀ id ∈ x.ids, (sto' id).isSome = true) :
    RE ⟨upd st.env d x, sto'⟩ n (a.put (some d) v) w' A' φ' where
  size := by simp [Act.put, h.size]
  defers := by simp [Act.put, h.defers]
  val := fun k => by
    simp only [Act.put]
    rw [getD_set _ _ _ _ _ (by rw [h.size]; exact hd)]
    by_cases hk : k = d
    · simp [hk, hx]
    · rw [upd_ne _ _ hk, if_neg hk]
      exact CA.goes hg _ _ (fun id hid => hφ id (h.nod k id hid)) (h.val k)
  nod := fun k id hid => by
    by_cases hk : k = d
    · subst hk; simp at hid; exact hi id hid
    · simp only [upd_ne _ _ hk] at hid
      exact hs id (h.nod k id hid)

theorem RE.put_none {st : St} {n : Nat} {a : Act} {w w' : World} {A A' : Nat → Prop} {φ φ' : Nat → Nat} (h : RE st n a w A φ) {v : Value} {sto' : Nat → Option Ob}
    (hg : Goes A A' w w') (hφ : ∀ id, (st.sto id).isSome = true → φ' id = φ id) (hs : ∀ id, (st.sto id).isSome = true → (sto' id).isSome = true) :
    RE ⟨st.env, sto'⟩ n (a.put none v) w' A' φ' where
  size := h.size
  defers := h.defers
  val := fun k => CA.goes hg _ _ (fun id hid => hφ id (h.nod k id hid)) (h.val k)
  nod := fun k id hid => hs id (h.nod k id hid)

end Go.Sx
