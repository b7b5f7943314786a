/- A state that says less: fewer slots, other names for objects, rows that are written no more. No statement of a seat is proved here. -/
import Derived.Test.YtgnokggmbkhnbaaSxCall
set_option linter.unusedSimpArgs false
set_option linter.unusedVariables false
namespace Go.Sx

/-- Names for objects. -/
def ren : List (Nat × Nat) → Nat → Nat
  | [], k => k
  | (i, j) :: l, k => if k = i then j else ren l k

mutual
/-- y says no more than x does. -/
def wkV (sto : Nat → Option Ob) (sn : List Nat) (π : Nat → Nat) : AV → AV → Prop
  | _, .undef => True
  | x, .t (.v v) => x = .t (.v v)
  | x, .t (.sl sz es) => x = .t (.sl sz es) ∨ (x.isNil = true ∧ es = []) ∨ (∃ id off len r, x = .own id sz off len r ∧ slTrees sz sto x = some es ∧ (id ∈ sn ∨ ∃ s es, sto id = some (.fro s es) ∨ sto id = some (.row s false es)))
  | x, .ptr i o => x = .ptr (π i) o
  | x, .ept i s j o => x = .ept (π i) s j o
  | x, .ipt cs => x = .ipt cs
  | x, .own i s o l r => x = .own (π i) s o l r ∨ (x.isNil = true ∧ o = 0 ∧ l = 0 ∧ r = false)
  | .ag xs, .ag ys => wkL sto sn π xs ys
  | .tp xs, .tp ys => wkL sto sn π xs ys
  | .fn f a b, .fn f' a' b' => f = f' ∧ wkL sto sn π a a' ∧ wkL sto sn π b b'
  | _, _ => False
def wkL (sto : Nat → Option Ob) (sn : List Nat) (π : Nat → Nat) : List AV → List AV → Prop
  | [], [] => True
  | x :: xs, y :: ys => wkV sto sn π x y ∧ wkL sto sn π xs ys
  | _, _ => False
end

def wkO (sto : Nat → Option Ob) (sn : List Nat) (π : Nat → Nat) : Option Ob → Ob → Prop
  | some (.box xs), .box ys => wkL sto sn π xs ys ∧ ys.all AV.one = true
  | some (.row s r es), .row s' r' es' => s = s' ∧ r = r' ∧ es = es'
  | some (.fro s es), .fro s' es' => s = s' ∧ es = es'
  | none, .row _ r es => r = false ∧ es = []
  | _, .dead => True
  | _, _ => False

/-- The objects of the lesser state. -/
structure SubO (sto sto' : Nat → Option Ob) (π : Nat → Nat) (sn : List Nat) : Prop where
  obj : ∀ id o, sto' id = some o → wkO sto sn π (sto (π id)) o
  nod : ∀ id o, sto' id = some o → ∀ j ∈ o.ids, (sto' j).isSome = true
  inj : ∀ i j oi oj, sto' i = some oi → sto' j = some oj → oi.live = true → oj.live = true → π i = π j → i = j
  snOk : ∀ i ∈ sn, 100 ≤ i ∧ (∃ sz es, sto i = some (.row sz true es)) ∧ ∀ id o, sto' id = some o → o.live = true → π id ≠ i

section
variable {E : Env} {F : Frm} {sto sto' : Nat → Option Ob} {w : World} {A : Nat → Prop} {φ : Nat → Nat} {π : Nat → Nat} {sn : List Nat}

theorem isNil_eq {x : AV} (h : x.isNil = true) : x = .t (.v (.slice none 0 0)) := by
  unfold AV.isNil at h
  split at h
  · rfl
  · simp at h

mutual
theorem wkV.ok (h : RS E F sto w A φ) : ∀ (x y : AV) (v : Value), wkV sto sn π x y → CA A φ w x v → CA (shown A φ sn) (φ ∘ π) w y v
  | x, .undef, v, _, _ => by simp only [CA]
  | x, .t (.v u), v, hk, hx => by
    simp only [wkV] at hk; subst hk
    simpa only [CA, CT] using hx
  | x, .t (.sl sz es), v, hk, hx => by
    simp only [wkV] at hk
    have base : CA (shown A φ sn) φ w (.t (.sl sz es)) v → CA (shown A φ sn) (φ ∘ π) w (.t (.sl sz es)) v := fun h => by simpa only [CA] using h
    rcases hk with hk | ⟨hk, he⟩ | ⟨id, off, len, r, hk, hs, hid⟩
    · subst hk; exact base (CA.goes (goes_shown sn) _ v (fun _ _ => rfl) hx)
    · subst he; rw [isNil_eq hk] at hx
      exact base (Wk.ok (sn := sn) h (x := .t (.v (.slice none 0 0))) (y := .t (.sl sz [])) rfl hx)
    · subst hk
      exact base (Wk.ok (sn := sn) h (x := .own id sz off len r) (y := .t (.sl sz es)) ⟨rfl, hs, hid⟩ hx)
  | x, .ptr i o, v, hk, hx => by
    simp only [wkV] at hk; subst hk
    simpa only [CA, Function.comp] using hx
  | x, .ept i s j o, v, hk, hx => by
    simp only [wkV] at hk; subst hk
    simpa only [CA, Function.comp] using hx
  | x, .ipt cs, v, hk, hx => by
    simp only [wkV] at hk; subst hk
    have := CA.goes (φ' := φ ∘ π) (goes_shown (φ := φ) sn) _ v (fun i hi => by simp [AV.ids] at hi) hx
    exact this
  | x, .own i s o l r, v, hk, hx => by
    simp only [wkV] at hk
    rcases hk with hk | ⟨hk, rfl, rfl, rfl⟩
    · subst hk; simpa only [CA, Function.comp] using hx
    · rw [isNil_eq hk] at hx
      rw [(ca_v hx).1]
      simp only [CA]
      exact ⟨none, 0, rfl, Nat.le_refl _, fun _ => rfl, Or.inl rfl⟩
  | .ag xs, .ag ys, v, hk, hx => by
    simp only [wkV] at hk
    simp only [CA] at hx ⊢
    obtain ⟨us, rfl, hx⟩ := hx
    exact ⟨us, rfl, wkL.ok h xs ys _ hk hx⟩
  | .tp xs, .tp ys, v, hk, hx => by
    simp only [wkV] at hk
    simp only [CA] at hx ⊢
    obtain ⟨us, rfl, hx⟩ := hx
    exact ⟨us, rfl, wkL.ok h xs ys _ hk hx⟩
  | .fn f a b, .fn f' a' b', v, hk, hx => by
    simp only [wkV] at hk
    obtain ⟨rfl, h1, h2⟩ := hk
    simp only [CA] at hx ⊢
    obtain ⟨us, vs, rfl, g1, g2⟩ := hx
    exact ⟨us, vs, rfl, wkL.ok h a a' _ h1 g1, wkL.ok h b b' _ h2 g2⟩
  | .t _, .ag _, _, hk, _ | .tp _, .ag _, _, hk, _ | .ptr _ _, .ag _, _, hk, _ | .ept _ _ _ _, .ag _, _, hk, _ | .ipt _, .ag _, _, hk, _ | .own _ _ _ _ _, .ag _, _, hk, _ | .fn _ _ _, .ag _, _, hk, _ | .undef, .ag _, _, hk, _ => by simp [wkV] at hk
  | .t _, .tp _, _, hk, _ | .ag _, .tp _, _, hk, _ | .ptr _ _, .tp _, _, hk, _ | .ept _ _ _ _, .tp _, _, hk, _ | .ipt _, .tp _, _, hk, _ | .own _ _ _ _ _, .tp _, _, hk, _ | .fn _ _ _, .tp _, _, hk, _ | .undef, .tp _, _, hk, _ => by simp [wkV] at hk
  | .t _, .fn _ _ _, _, hk, _ | .ag _, .fn _ _ _, _, hk, _ | .tp _, .fn _ _ _, _, hk, _ | .ptr _ _, .fn _ _ _, _, hk, _ | .ept _ _ _ _, .fn _ _ _, _, hk, _ | .ipt _, .fn _ _ _, _, hk, _ | .own _ _ _ _ _, .fn _ _ _, _, hk, _ | .undef, .fn _ _ _, _, hk, _ => by simp [wkV] at hk
theorem wkL.ok (h : RS E F sto w A φ) : ∀ (xs ys : List AV) (vs : List Value), wkL sto sn π xs ys → CAs A φ w xs vs → CAs (shown A φ sn) (φ ∘ π) w ys vs
  | [], [], vs, _, hx => by simpa only [CAs] using hx
  | [], _ :: _, _, hk, _ => by simp [wkL] at hk
  | _ :: _, [], _, hk, _ => by simp [wkL] at hk
  | x :: xs, y :: ys, vs, hk, hx => by
    simp only [wkL] at hk
    simp only [CAs] at hx ⊢
    obtain ⟨z, zs, rfl, h1, h2⟩ := hx
    exact ⟨z, zs, rfl, wkV.ok h x y z hk.1 h1, wkL.ok h xs ys zs hk.2 h2⟩
end

theorem wkO.live {x : Option Ob} {y : Ob} (h : wkO sto sn π x y) (hl : y.live = true) : ∃ o, x = some o ∧ o.live = true := by
  unfold wkO at h
  split at h
  · exact ⟨_, rfl, rfl⟩
  · obtain ⟨rfl, rfl, rfl⟩ := h; exact ⟨_, rfl, hl⟩
  · simp [Ob.live] at hl
  · simp [Ob.live] at hl; rw [h.1] at hl; simp at hl
  · simp [Ob.live] at hl
  · exact h.elim

/-- The lesser state stands for the same world. -/
theorem SubO.ok (h : RS E F sto w A φ) (hs : SubO sto sto' π sn) (hio : ∀ i ∈ F.io, (sto' i).isSome = true → π i = i ∧ i < 100) (hio2 : ∀ id o, sto' id = some o → o.live = true → π id ∈ F.io → id = π id) :
    RS E F sto' w (shown A φ sn) (φ ∘ π) where
  nod := hs.nod
  obj := fun id o ho => by
    have hk := hs.obj id o ho
    unfold wkO at hk
    split at hk
    · rename_i xs ys hx
      have hob := h.obj _ _ hx
      simp only [CO] at hob ⊢
      obtain ⟨us, e, h1, h2, h3⟩ := hob
      exact ⟨us, e, h1, wkL.ok h xs ys _ hk.1 h2, h3⟩
    · rename_i s r es s' r' es' hx
      obtain ⟨rfl, rfl, rfl⟩ := hk
      have hob := h.obj _ _ hx
      simp only [CO, Function.comp] at hob ⊢
      exact ⟨hob.1, fun hr => ⟨(hob.2 hr).1, CRows.keeps (goes_shown sn).keeps rfl _ _ _ (hob.2 hr).2⟩⟩
    · rename_i s es s' es' hx
      obtain ⟨rfl, rfl⟩ := hk
      have hob := h.obj _ _ hx
      simp only [CO, Function.comp] at hob ⊢
      exact ⟨Or.inl hob.1, CRows.keeps (goes_shown sn).keeps rfl _ _ _ hob.2⟩
    · obtain ⟨rfl, rfl⟩ := hk
      simp [CO]
    · simp [CO]
    · exact hk.elim
  liv := fun id o ho hl => by
    obtain ⟨o', ho', hl'⟩ := wkO.live (hs.obj id o ho) hl
    have hlv := h.liv _ o' ho' hl'
    refine ⟨fun hb => ?_, hlv.2.1, ?_⟩
    · rcases hb with hb | ⟨i, hi, hb⟩
      · exact hlv.1 hb
      · obtain ⟨h1, ⟨sz, es, h2⟩, h3⟩ := hs.snOk i hi
        exact h.inj _ _ _ _ ho' h2 hl' rfl (h3 id o ho hl) hb
    · rcases hlv.2.2 with ⟨h1, h2⟩ | h1
      · have e := hio2 id o ho hl h1
        left
        rw [← e] at h1 h2
        refine ⟨h1, ?_⟩
        simp only [Function.comp]
        rw [← e]; exact h2
      · exact Or.inr h1
  inj := fun i j oi oj hi hj li lj hij => by
    obtain ⟨pi, hpi, lpi⟩ := wkO.live (hs.obj i oi hi) li
    obtain ⟨pj, hpj, lpj⟩ := wkO.live (hs.obj j oj hj) lj
    exact h.inj _ _ pi pj hpi hpj lpi lpj fun e => hij (hs.inj i j oi oj hi hj li lj e)
  alt := fun b hb => by
    rcases hb with hb | ⟨i, hi, rfl⟩
    · exact h.alt b hb
    · obtain ⟨_, ⟨sz, es, h2⟩, _⟩ := hs.snOk i hi; exact (h.liv _ _ h2 rfl).2.1
  gi := h.gi
  gA := fun b hb => Or.inl (h.gA b hb)
  os := h.os
  tape := h.tape
  output := h.output
  size := h.size
  old := h.old
  asub := fun b hb => Or.inl (h.asub b hb)
  anew := fun b hb => by
    rcases hb with hb | ⟨i, hi, rfl⟩
    · exact h.anew b hb
    · obtain ⟨h1, ⟨sz, es, h2⟩, _⟩ := hs.snOk i hi
      rcases (h.liv _ _ h2 rfl).2.2 with ⟨h3, _⟩ | h3
      · have := h.ioc i h3; omega
      · exact Or.inr h3
  cap := h.cap
  ioc := h.ioc
  iok := fun id o ho hl hi => by
    obtain ⟨o', ho', hl'⟩ := wkO.live (hs.obj id o ho) hl
    have e := (hio id hi (by rw [ho]; rfl)).1
    have := h.iok _ o' ho' hl' (by rw [e]; exact hi)
    simp only [Function.comp]; rw [this, e]

/-- A lesser state. -/
structure Sub (io : List Nat) (s s' : St) : Prop where
  ex : ∃ (π : Nat → Nat) (sn : List Nat), SubO s.sto s'.sto π sn ∧ (∀ k, wkV s.sto sn π (s.env k) (s'.env k)) ∧ (∀ k, ∀ i ∈ (s'.env k).ids, (s'.sto i).isSome = true) ∧
    (∀ i ∈ io, π i = i) ∧ (∀ id, (s'.sto id).isSome = true → π id ∈ io → id = π id)

theorem Sub.ok {s s' : St} {n : Nat} {a : Act} (hs : Sub F.io s s') (h : RS E F s.sto w A φ) (r : RE s n a w A φ) : ∃ A' φ', RS E F s'.sto w A' φ' ∧ RE s' n a w A' φ' := by
  obtain ⟨π, sn, h1, h2, h3, h4, h5⟩ := hs.ex
  refine ⟨_, _, h1.ok h (fun i hi _ => ⟨h4 i hi, h.ioc i hi⟩) (fun id o ho _ hio => h5 id (by rw [ho]; rfl) hio), ⟨r.size, r.defers, fun k => wkV.ok h _ _ _ (h2 k) (r.val k), h3⟩⟩
end
end Go.Sx
