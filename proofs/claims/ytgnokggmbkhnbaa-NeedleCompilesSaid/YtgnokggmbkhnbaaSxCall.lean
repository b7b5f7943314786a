/- Contracts of functions over abstract values, and what a call does to the abstract state. No statement of a seat is proved here. -/
import Derived.Test.YtgnokggmbkhnbaaSxStep
set_option linter.unusedSimpArgs false
set_option linter.unusedVariables false
namespace Go.Sx

def stoOf : List (Nat × Ob) → Nat → Option Ob
  | [], _ => none
  | (i, o) :: l, k => if k = i then some o else stoOf l k

def keysOf (l : List (Nat × Ob)) : List Nat := l.map (·.1)

theorem stoOf_mem {l : List (Nat × Ob)} {k : Nat} {o : Ob} (h : stoOf l k = some o) : (k, o) ∈ l := by
  induction l with
  | nil => simp [stoOf] at h
  | cons p l ih =>
    obtain ⟨i, q⟩ := p
    simp only [stoOf] at h
    split at h
    · rename_i e; injection h with h; subst e; subst h; simp
    · simp [ih h]

theorem stoOf_some {l : List (Nat × Ob)} {k : Nat} : (stoOf l k).isSome = true ↔ k ∈ keysOf l := by
  induction l with
  | nil => simp [stoOf, keysOf]
  | cons p l ih =>
    obtain ⟨i, q⟩ := p
    simp only [stoOf, keysOf, List.map_cons, List.mem_cons]
    split
    · rename_i e; simp [e]
    · rename_i e; simp only [e, false_or]; exact ih

/-- The objects that a call holds: each in a block of its own. -/
structure Holds (A : Nat → Prop) (φ : Nat → Nat) (w : World) (l : List (Nat × Ob)) : Prop where
  obj : ∀ id o, stoOf l id = some o → CO A φ w (φ id) o
  own : ∀ id o, stoOf l id = some o → ¬ A (φ id) ∧ φ id < w.heap.size
  inj : ∀ i j, i ∈ keysOf l → j ∈ keysOf l → i ≠ j → φ i ≠ φ j

/-- The ids that are met are held. -/
structure Shut (xs : List AV) (l : List (Nat × Ob)) : Prop where
  vals : ∀ i ∈ idsL xs, i ∈ keysOf l
  objs : ∀ id o, stoOf l id = some o → ∀ i ∈ o.ids, i ∈ keysOf l
  live : ∀ id o, stoOf l id = some o → o.live = true

/-- How a call has ended. -/
structure Fin (A : Nat → Prop) (φ : Nat → Nat) (w : World) (ins : List (Nat × Ob)) (r : AV) (outs : List (Nat × Ob)) (v : Value) (w' : World) (A' : Nat → Prop) (φ' : Nat → Nat) : Prop where
  go : Goes A A' w w'
  agree : ∀ id ∈ keysOf ins, φ' id = φ id
  holds : Holds A' φ' w' outs
  fresh : ∀ id ∈ keysOf outs, id ∈ keysOf ins ∨ w.heap.size ≤ φ' id
  ca : CA A' φ' w' r v
  anew : ∀ b, A' b → A b ∨ w.heap.size ≤ b
  alt : ∀ b, A' b → b < w'.heap.size
  old : ∀ b, b < w.heap.size → (∀ id ∈ keysOf ins, φ id ≠ b) → w'.heap[b]? = w.heap[b]?
  os : w'.os = w.os
  tape : w'.tape = w.tape
  output : w'.output = w.output
  size : w.heap.size ≤ w'.heap.size

/-- A call of f, whether it has a body or not. -/
def FRuns (P : Program) (f : FuncId) (vals : Array Value) (w : World) (R : Value → World → Prop) : Prop :=
  ((callFunc f vals).run P w = .ok (.enter f vals) w ∧ Calls P f vals w fun e w' => ∃ v, e = .returned v ∧ R v w') ∨
  (∃ v w', (callFunc f vals).run P w = .ok (.value v) w' ∧ R v w')

/-- Called with 'args', holding 'ins', f answers r and leaves 'outs'. -/
structure Meets (P : Program) (E : Env) (f : FuncId) (args : List AV) (ins : List (Nat × Ob)) (r : AV) (outs : List (Nat × Ob)) : Prop where
  shutIn : Shut args ins
  shutOut : Shut [r] outs
  stay : ∀ i ∈ keysOf ins, i ∈ keysOf outs
  runs : ∀ (A : Nat → Prop) (φ : Nat → Nat) (w : World) (vals : Array Value), E.gi w → (∀ b, E.gb b → A b) → (∀ b, A b → b < w.heap.size) → Holds A φ w ins → CAs A φ w args vals.toList →
    FRuns P f vals w fun v w' => ∃ A' φ', Fin A φ w ins r outs v w' A' φ'

/-- A caller's value as a callee is told it: rows of one's own as trees. 'sn': the rows that are shown so. -/
def Wk (sto : Nat → Option Ob) (sn : List Nat) : AV → AV → Prop
  | .own id sz off len r, .t (.sl sz' es) => sz = sz' ∧ slTrees sz sto (.own id sz off len r) = some es ∧ (id ∈ sn ∨ ∃ s es, sto id = some (.fro s es) ∨ sto id = some (.row s false es))
  | .t (.v (.slice none 0 0)), .t (.sl _ es) => es = []
  | x, y => x = y

/-- The same, within structs. -/
inductive Wks (sto : Nat → Option Ob) (sn : List Nat) : List AV → List AV → Prop
  | nil : Wks sto sn [] []
  | one {x y : AV} {xs ys : List AV} : Wk sto sn x y → Wks sto sn xs ys → Wks sto sn (x :: xs) (y :: ys)
  | ag {cs ds xs ys : List AV} : Wks sto sn cs ds → Wks sto sn xs ys → Wks sto sn (.ag cs :: xs) (.ag ds :: ys)

mutual
/-- No slice that is a tree, no pointer at one. -/
def AV.plain : AV → Bool
  | .t (.v _) => true
  | .t (.sl _ _) => false
  | .ag cs => plainL cs
  | .tp cs => plainL cs
  | .ipt _ => false
  | .fn _ a b => plainL a && plainL b
  | _ => true
def plainL : List AV → Bool
  | [] => true
  | x :: xs => x.plain && plainL xs
end

def T.plain : T → Bool
  | .v _ => true
  | .sl _ _ => false

def Ob.plain : Ob → Prop
  | .box cs => plainL cs = true
  | .row _ _ es => ∀ e ∈ es, ∀ c ∈ e, c.plain = true
  | _ => False

section
variable {P : Program} {E : Env} {F : Frm} {sto : Nat → Option Ob} {w : World} {A A' : Nat → Prop} {φ φ' : Nat → Nat}

mutual
theorem CA.plain : ∀ {x : AV} {v : Value}, x.plain = true → (∀ i ∈ x.ids, φ' i = φ i) → CA A φ w x v → CA A' φ' w x v
  | .t (.v _), _, _, _, h => by simpa only [CA, CT] using h
  | .t (.sl _ _), _, h, _, _ => by simp [AV.plain] at h
  | .ag cs, v, h, hi, hx => by
    simp only [CA] at hx ⊢; obtain ⟨ys, rfl, hx⟩ := hx
    exact ⟨ys, rfl, CAs.plain (by simpa only [AV.plain] using h) (by simpa only [AV.ids] using hi) hx⟩
  | .tp cs, v, h, hi, hx => by
    simp only [CA] at hx ⊢; obtain ⟨ys, rfl, hx⟩ := hx
    exact ⟨ys, rfl, CAs.plain (by simpa only [AV.plain] using h) (by simpa only [AV.ids] using hi) hx⟩
  | .ptr i o, v, _, hi, hx => by simp only [CA] at hx ⊢; rw [hi i (by simp [AV.ids])]; exact hx
  | .ept i s j o, v, _, hi, hx => by simp only [CA] at hx ⊢; rw [hi i (by simp [AV.ids])]; exact hx
  | .ipt _, _, h, _, _ => by simp [AV.plain] at h
  | .own i s o l r, v, _, hi, hx => by simp only [CA] at hx ⊢; rw [hi i (by simp [AV.ids])]; exact hx
  | .fn f a b, v, h, hi, hx => by
    simp only [CA] at hx ⊢; obtain ⟨us, ys, rfl, h1, h2⟩ := hx
    simp only [AV.plain, Bool.and_eq_true] at h
    exact ⟨us, ys, rfl, CAs.plain h.1 (fun i hm => hi i (by simp [AV.ids, hm])) h1, CAs.plain h.2 (fun i hm => hi i (by simp [AV.ids, hm])) h2⟩
  | .undef, _, _, _, _ => by simp only [CA]
theorem CAs.plain : ∀ {xs : List AV} {vs : List Value}, plainL xs = true → (∀ i ∈ idsL xs, φ' i = φ i) → CAs A φ w xs vs → CAs A' φ' w xs vs
  | [], _, _, _, h => by simpa only [CAs] using h
  | x :: xs, vs, h, hi, hx => by
    simp only [CAs] at hx ⊢
    simp only [plainL, Bool.and_eq_true] at h
    obtain ⟨z, zs, rfl, h1, h2⟩ := hx
    exact ⟨z, zs, rfl, CA.plain h.1 (fun i hm => hi i (by simp [idsL, hm])) h1, CAs.plain h.2 (fun i hm => hi i (by simp [idsL, hm])) h2⟩
end

theorem CCells.plain {b : Nat} : ∀ {cs : List T} {o : Nat}, (∀ c ∈ cs, c.plain = true) → CCells A w b o cs → CCells A' w b o cs
  | [], _, _, _ => by simp only [CCells]
  | c :: cs, o, hp, h => by
    simp only [CCells] at h ⊢
    obtain ⟨⟨y, hy, hc⟩, hr⟩ := h
    refine ⟨⟨y, hy, ?_⟩, CCells.plain (fun d hd => hp d (by simp [hd])) hr⟩
    have := hp c (by simp)
    cases c with
    | v x => simpa only [CT] using hc
    | sl s es => simp [T.plain] at this

theorem CRows.plain {sz b : Nat} : ∀ {es : List (List T)} {o : Nat}, (∀ e ∈ es, ∀ c ∈ e, c.plain = true) → CRows A w sz b o es → CRows A' w sz b o es
  | [], _, _, _ => by simp only [CRows]
  | e :: es, o, hp, h => by
    simp only [CRows] at h ⊢
    exact ⟨⟨h.1.1, CCells.plain (hp e (by simp)) h.1.2⟩, CRows.plain (fun d hd => hp d (by simp [hd])) h.2⟩

theorem CO.plain {b : Nat} {o : Ob} (hp : o.plain) (hi : ∀ i ∈ o.ids, φ' i = φ i) (h : CO A φ w b o) : CO A' φ' w b o := by
  cases o with
  | box cs =>
    simp only [CO] at h ⊢
    obtain ⟨ys, e, h1, h2, h3⟩ := h
    exact ⟨ys, e, h1, CAs.plain hp (by simpa only [Ob.ids] using hi) h2, h3⟩
  | row s r es =>
    simp only [CO] at h ⊢
    exact ⟨h.1, fun hr => ⟨(h.2 hr).1, CRows.plain hp (h.2 hr).2⟩⟩
  | fro s es => simp [Ob.plain] at hp
  | dead => simp [Ob.plain] at hp

/-- Blocks that a callee may look at: the rows that are shown join those that are never written. -/
def shown (A : Nat → Prop) (φ : Nat → Nat) (sn : List Nat) : Nat → Prop := fun b => A b ∨ ∃ i ∈ sn, b = φ i

theorem goes_shown (sn : List Nat) : Goes A (shown A φ sn) w w := ⟨fun _ h => ⟨Or.inl h, rfl⟩, fun _ _ h => h⟩

theorem Wk.ok (h : RS E F sto w A φ) {sn : List Nat} {x y : AV} {v : Value} (hk : Wk sto sn x y) (hx : CA A φ w x v) : CA (shown A φ sn) φ w y v := by
  have same : x = y → CA (shown A φ sn) φ w y v := fun e => by rw [← e]; exact CA.goes (goes_shown sn) x v (fun _ _ => rfl) hx
  unfold Wk at hk
  split at hk
  · rename_i id sz off len r sz' es
    obtain ⟨rfl, hs, hid⟩ := hk
    simp only [CA] at hx
    obtain ⟨a, cap, rfl, hle, hrf, hroom⟩ := hx
    simp only [slTrees, AV.asOwn, if_true] at hs
    unfold rowPart at hs
    simp only [CA, CT]
    split at hs
    · rename_i s' real es' hob
      split at hs
      · rename_i hc
        obtain ⟨rfl, hfit⟩ := hc
        injection hs with hs
        have hlen : es.length = len := by rw [← hs]; simp; omega
        have hco := h.obj id _ hob
        simp only [CO] at hco
        refine ⟨a, cap, by rw [hlen], by omega, ?_⟩
        cases real with
        | false =>
          have := hco.1 rfl; subst this
          left; simpa using hs.symm
        | true =>
          rcases hroom with hroom | ⟨ha, _⟩
          · left; apply List.eq_nil_of_length_eq_zero; omega
          · have hsn : id ∈ sn := by
              rcases hid with hid | ⟨s, es, hid | hid⟩
              · exact hid
              · rw [hob] at hid; cases hid
              · rw [hob] at hid; cases hid
            right
            refine ⟨φ id, off * s', ha, Or.inr ⟨id, hsn, rfl⟩, ?_⟩
            have := ((hco.2 rfl).2.drop off).take len
            rw [hs, Nat.zero_add] at this
            exact CRows.keeps (goes_shown sn).keeps rfl _ _ _ this
      · simp at hs
    · rename_i s' es' hob
      split at hs
      · rename_i hc
        obtain ⟨rfl, hfit⟩ := hc
        injection hs with hs
        have hlen : es.length = len := by rw [← hs]; simp; omega
        have hco := h.obj id _ hob
        simp only [CO] at hco
        refine ⟨a, cap, by rw [hlen], by omega, ?_⟩
        rcases hroom with hroom | ⟨ha, _⟩
        · left; apply List.eq_nil_of_length_eq_zero; omega
        · right
          refine ⟨φ id, off * s', ha, Or.inl hco.1, ?_⟩
          have := (hco.2.drop off).take len
          rw [hs, Nat.zero_add] at this
          exact CRows.keeps (goes_shown sn).keeps rfl _ _ _ this
      · simp at hs
    · simp at hs
  · subst hk
    simp only [CA, CT]
    rw [(ca_v hx).1]
    exact ⟨none, 0, rfl, by simp, Or.inl trivial⟩
  · exact same hk

theorem Wks.ok (h : RS E F sto w A φ) {sn : List Nat} {xs ys : List AV} (hk : Wks sto sn xs ys) : ∀ {vs : List Value}, CAs A φ w xs vs → CAs (shown A φ sn) φ w ys vs := by
  induction hk with
  | nil => intro vs hx; simpa only [CAs] using hx
  | one h1 _ ih =>
    intro vs hx
    simp only [CAs] at hx ⊢
    obtain ⟨z, zs, rfl, h2, h3⟩ := hx
    exact ⟨z, zs, rfl, h1.ok h h2, ih h3⟩
  | ag _ _ ih1 ih2 =>
    intro vs hx
    simp only [CAs] at hx ⊢
    obtain ⟨z, zs, rfl, h2, h3⟩ := hx
    simp only [CA] at h2
    obtain ⟨us, rfl, h2⟩ := h2
    exact ⟨_, zs, rfl, by simp only [CA]; exact ⟨us, rfl, ih1 h2⟩, ih2 h3⟩

/-- The store behind a call. -/
def froze (sto : Nat → Option Ob) : List Nat → List (Nat × Ob)
  | [] => []
  | i :: l => (match sto i with
    | some (.row sz true es) => [(i, Ob.fro sz es)]
    | _ => []) ++ froze sto l

/-- What is asked of a call. -/
structure CallOk (P : Program) (E : Env) (sto : Nat → Option Ob) (f : FuncId) (xs : List AV) (r : AV) (ins outs : List (Nat × Ob)) (sn : List Nat) (keep : Bool) (ys : List AV) : Prop where
  meets : Meets P E f ys ins r outs
  wk : Wks sto sn xs ys
  insOk : ∀ id ∈ keysOf ins, sto id = stoOf ins id
  newOk : ∀ id ∈ keysOf outs, id ∈ keysOf ins ∨ (sto id = none ∧ 100 ≤ id)
  snOk : ∀ i ∈ sn, 100 ≤ i ∧ i ∉ keysOf ins ∧ ∃ sz es, sto i = some (.row sz true es)
  keepOk : keep = true → r.plain = true ∧ ∀ id o, stoOf outs id = some o → o.plain
  nd : (keysOf outs).Nodup

/-- The store, with some objects in the place of what it had. -/
def over (l : List (Nat × Ob)) (sto : Nat → Option Ob) : Nat → Option Ob := fun k => match stoOf l k with
  | some o => some o
  | none => sto k

theorem applyWr_over : ∀ {l : List (Nat × Ob)} {sto : Nat → Option Ob}, (keysOf l).Nodup → applyWr sto l = over l sto
  | [], sto, _ => by funext k; simp [applyWr, over, stoOf]
  | (i, o) :: l, sto, h => by
    simp only [keysOf, List.map_cons, List.nodup_cons] at h
    simp only [applyWr]
    rw [applyWr_over h.2]
    funext k
    simp only [over, stoOf]
    by_cases hk : k = i
    · subst hk
      have : stoOf l k = none := by
        cases hs : stoOf l k with
        | none => rfl
        | some o => exact absurd (stoOf_some.1 (by rw [hs]; rfl)) h.1
      simp [this]
    · simp only [if_neg hk]
      split <;> simp [upd_ne _ _ hk]

theorem froze_some {sn : List Nat} {k : Nat} {o : Ob} (h : stoOf (froze sto sn) k = some o) : k ∈ sn ∧ ∃ sz es, sto k = some (.row sz true es) ∧ o = .fro sz es := by
  induction sn with
  | nil => simp [froze, stoOf] at h
  | cons i l ih =>
    simp only [froze] at h
    split at h
    · rename_i sz es hs
      simp only [List.singleton_append, stoOf] at h
      split at h
      · rename_i hk; subst hk
        injection h with h
        exact ⟨by simp, sz, es, hs, h.symm⟩
      · obtain ⟨h1, h2⟩ := ih h
        exact ⟨by simp [h1], h2⟩
    · simp only [List.nil_append] at h
      obtain ⟨h1, h2⟩ := ih h
      exact ⟨by simp [h1], h2⟩

theorem froze_get {sn : List Nat} {k sz : Nat} {es : List (List T)} (hk : k ∈ sn) (hs : sto k = some (.row sz true es)) : stoOf (froze sto sn) k = some (.fro sz es) := by
  induction sn with
  | nil => simp at hk
  | cons i l ih =>
    simp only [froze]
    by_cases he : k = i
    · subst he; simp [hs, stoOf]
    · have hk' : k ∈ l := by rcases List.mem_cons.1 hk with h | h; exact absurd h he; exact h
      split
      · simp only [List.singleton_append, stoOf, if_neg he]; exact ih hk'
      · simpa using ih hk'

theorem over_some {l : List (Nat × Ob)} {k : Nat} (h : (sto k).isSome = true) : (over l sto k).isSome = true := by
  unfold over; split <;> simp [h]

/-- What a call leaves in the abstract store. -/
def after (sto : Nat → Option Ob) (outs : List (Nat × Ob)) (sn : List Nat) (keep : Bool) : Nat → Option Ob :=
  over outs (if keep then sto else over (froze sto sn) sto)

theorem call_ok (h : RS E F sto w A φ) {f : FuncId} {xs ys : List AV} {r : AV} {ins outs : List (Nat × Ob)} {sn : List Nat} {keep : Bool} (hc : CallOk P E sto f xs r ins outs sn keep ys) {vals : Array Value} (hx : CAs A φ w xs vals.toList) :
    FRuns P f vals w fun v w' => ∃ A' φ', Did E F sto A φ w r v (after sto outs sn keep) w' A' φ' := by
  obtain ⟨hm, hwk, hins, hnew, hsn, hkeep, hnd⟩ := hc
  -- the rows that are shown are live, and their blocks are no others'
  have hsl : ∀ i ∈ sn, ∃ sz es, sto i = some (.row sz true es) := fun i hi => (hsn i hi).2.2
  have hself : ∀ id o, stoOf ins id = some o → sto id = some o := fun id o ho => by
    rw [hins id (stoOf_some.1 (by rw [ho]; rfl))]; exact ho
  have hA1 : ∀ b, E.gb b → shown A φ sn b := fun b hb => Or.inl (h.gA b hb)
  have hA2 : ∀ b, shown A φ sn b → b < w.heap.size := fun b hb => by
    rcases hb with hb | ⟨i, hi, rfl⟩
    · exact h.alt b hb
    · obtain ⟨sz, es, hs⟩ := hsl i hi; exact (h.liv i _ hs rfl).2.1
  have hsep : ∀ id o, sto id = some o → o.live = true → id ∉ sn → ¬ shown A φ sn (φ id) := fun id o ho hl hni hb => by
    rcases hb with hb | ⟨i, hi, hb⟩
    · exact (h.liv id o ho hl).1 hb
    · obtain ⟨sz, es, hs⟩ := hsl i hi
      exact h.inj id i o _ ho hs hl rfl (fun e => hni (e ▸ hi)) hb
  have hH : Holds (shown A φ sn) φ w ins := {
    obj := fun id o ho => CO.goes (goes_shown sn) o (fun _ _ => rfl) (fun _ => rfl) (h.obj id o (hself id o ho))
    own := fun id o ho => ⟨hsep id o (hself id o ho) (hm.shutIn.live id o ho) (fun hi => (hsn id hi).2.1 (stoOf_some.1 (by rw [ho]; rfl))), (h.liv id o (hself id o ho) (hm.shutIn.live id o ho)).2.1⟩
    inj := fun i j hi hj hij => by
      obtain ⟨oi, hoi⟩ := Option.isSome_iff_exists.1 (stoOf_some.2 hi)
      obtain ⟨oj, hoj⟩ := Option.isSome_iff_exists.1 (stoOf_some.2 hj)
      exact h.inj i j oi oj (hself i oi hoi) (hself j oj hoj) (hm.shutIn.live i oi hoi) (hm.shutIn.live j oj hoj) hij }
  have hrun := hm.runs (shown A φ sn) φ w vals h.gi hA1 hA2 hH (hwk.ok h hx)
  have fin : ∀ v w', (∃ A' φ', Fin (shown A φ sn) φ w ins r outs v w' A' φ') → ∃ A' φ', Did E F sto A φ w r v (after sto outs sn keep) w' A' φ' := by
    intro v w' ⟨A1, φ1, hf⟩
    obtain ⟨A2, hA2sub, hA2A, hA2back, hA2sn, hres, hobj⟩ : ∃ A2 : Nat → Prop, (∀ b, A2 b → A1 b) ∧ (∀ b, A b → A2 b) ∧ (∀ b, A2 b → b < w.heap.size → shown A φ sn b ∧ (keep = true → A b)) ∧ (keep = false → ∀ b, A1 b → A2 b) ∧
        (∀ φ2 : Nat → Nat, (∀ i ∈ r.ids, φ2 i = φ1 i) → CA A2 φ2 w' r v) ∧ (∀ (φ2 : Nat → Nat) id o, stoOf outs id = some o → (∀ i ∈ o.ids, φ2 i = φ1 i) → CO A2 φ2 w' (φ1 id) o) := by
      cases keep with
      | true =>
        obtain ⟨k1, k2⟩ := hkeep rfl
        refine ⟨fun b => A1 b ∧ (b < w.heap.size → A b), fun b hb => hb.1, fun b hb => ⟨(hf.go.keeps b (Or.inl hb)).1, fun _ => hb⟩, fun b hb hlt => ⟨Or.inl (hb.2 hlt), fun _ => hb.2 hlt⟩, fun hk => by simp at hk, fun φ2 hφ => CA.plain k1 hφ hf.ca, fun φ2 id o ho hφ => CO.plain (k2 id o ho) hφ (hf.holds.obj id o ho)⟩
      | false =>
        refine ⟨A1, fun b hb => hb, fun b hb => (hf.go.keeps b (Or.inl hb)).1, fun b hb hlt => ⟨?_, fun hk => by simp at hk⟩, fun _ b hb => hb, fun φ2 hφ => ?_, fun φ2 id o ho hφ => ?_⟩
        · rcases hf.anew b hb with hb | hb
          · exact hb
          · omega
        · exact CA.goes (Goes.refl A1 w') r v hφ hf.ca
        · exact CO.goes (Goes.refl A1 w') o hφ (fun _ => rfl) (hf.holds.obj id o ho)
    have hg : Goes A A2 w w' := ⟨fun b hb => ⟨hA2A b hb, (hf.go.keeps b (Or.inl hb)).2⟩, hf.go.cap⟩
    have φout : ∀ id ∈ keysOf outs, (if id ∈ keysOf outs then φ1 id else φ id) = φ1 id := fun id hid => if_pos hid
    have φold : ∀ id, (sto id).isSome = true → (if id ∈ keysOf outs then φ1 id else φ id) = φ id := fun id hs => by
      split
      · rename_i hid
        rcases hnew id hid with hi | hn
        · exact hf.agree id hi
        · rw [hn.1] at hs; simp at hs
      · rfl
    -- the store behind the call, by cases
    have haft : ∀ id o, after sto outs sn keep id = some o → (stoOf outs id = some o) ∨ (stoOf outs id = none ∧ ((∃ sz es, id ∈ sn ∧ keep = false ∧ sto id = some (.row sz true es) ∧ o = .fro sz es) ∨ (sto id = some o ∧ (keep = true ∨ id ∉ sn)))) := by
      intro id o ho
      unfold after over at ho
      split at ho
      · rename_i o' hs; injection ho with ho; subst ho; exact Or.inl hs
      · rename_i hs
        refine Or.inr ⟨hs, ?_⟩
        cases keep with
        | true => simp at ho; exact Or.inr ⟨ho, Or.inl rfl⟩
        | false =>
          simp only [Bool.false_eq_true, if_false] at ho
          split at ho
          · rename_i o' hs2
            injection ho with ho; subst ho
            obtain ⟨h1, sz, es, h2, h3⟩ := froze_some hs2
            exact Or.inl ⟨sz, es, h1, rfl, h2, h3⟩
          · rename_i hs2
            refine Or.inr ⟨ho, Or.inr fun hi => ?_⟩
            obtain ⟨sz, es, hr⟩ := hsl id hi
            rw [froze_get hi hr] at hs2; simp at hs2
    have hmono : ∀ id, (sto id).isSome = true → (after sto outs sn keep id).isSome = true := fun id hs => by
      unfold after
      refine over_some ?_
      cases keep with
      | true => exact hs
      | false => exact over_some hs
    have houtsome : ∀ id ∈ keysOf outs, (after sto outs sn keep id).isSome = true := fun id hid => by
      obtain ⟨o, ho⟩ := Option.isSome_iff_exists.1 (stoOf_some.2 hid)
      simp [after, over, ho]
    have hkeepblk : ∀ id o, sto id = some o → o.live = true → id ∉ keysOf outs → w'.heap[φ id]? = w.heap[φ id]? := fun id o ho hl hni => by
      refine hf.old _ (h.liv id o ho hl).2.1 fun k hk he => ?_
      obtain ⟨ok, hok⟩ := Option.isSome_iff_exists.1 (stoOf_some.2 hk)
      exact h.inj k id ok o (hself k ok hok) ho (hm.shutIn.live k ok hok) hl (fun e => hni (e ▸ hm.stay k hk)) he
    have hnotout : ∀ id, stoOf outs id = none → id ∉ keysOf outs := fun id hn hk => by rw [← stoOf_some, hn] at hk; simp at hk
    have hrs : RS E F (after sto outs sn keep) w' A2 (fun id => if id ∈ keysOf outs then φ1 id else φ id) := {
      nod := fun id o ho j hj => by
        rcases haft id o ho with ho | ⟨hno, ⟨sz, es, h1, h2, h3, h4⟩ | ⟨ho, _⟩⟩
        · exact houtsome j (hm.shutOut.objs id o ho j hj)
        · subst h4; simp [Ob.ids] at hj
        · exact hmono j (h.nod id o ho j hj)
      obj := fun id o ho => by
        rcases haft id o ho with ho | ⟨hno, ⟨sz, es, h1, h2, h3, h4⟩ | ⟨ho, _⟩⟩
        · have hk := stoOf_some.1 (by rw [ho]; rfl : (stoOf outs id).isSome = true)
          simp only [φout id hk]
          exact hobj _ id o ho fun i hi => φout i (hm.shutOut.objs id o ho i hi)
        · subst h4
          have hni := hnotout id hno
          simp only [if_neg hni]
          have hob := h.obj id _ h3
          simp only [CO] at hob ⊢
          refine ⟨hA2sn h2 _ (hf.go.keeps _ (Or.inr ⟨id, h1, rfl⟩)).1, ?_⟩
          exact CRows.keeps hg.keeps (hf.go.keeps _ (Or.inr ⟨id, h1, rfl⟩)).2 _ _ _ (hob.2 trivial).2
        · have hni := hnotout id hno
          simp only [if_neg hni]
          exact CO.goes hg o (fun i hi => φold i (h.nod id o ho i hi)) (fun hl => hkeepblk id o ho hl hni) (h.obj id o ho)
      liv := fun id o ho hl => by
        rcases haft id o ho with ho | ⟨hno, ⟨sz, es, h1, h2, h3, h4⟩ | ⟨ho, hks⟩⟩
        · have hk := stoOf_some.1 (by rw [ho]; rfl : (stoOf outs id).isSome = true)
          simp only [φout id hk]
          obtain ⟨o1, o2⟩ := hf.holds.own id o ho
          refine ⟨fun ha => o1 (hA2sub _ ha), o2, ?_⟩
          by_cases hi : id ∈ keysOf ins
          · rw [hf.agree id hi]
            obtain ⟨oi, hoi⟩ := Option.isSome_iff_exists.1 (stoOf_some.2 hi)
            exact (h.liv id oi (hself id oi hoi) (hm.shutIn.live id oi hoi)).2.2
          · rcases hf.fresh id hk with hi' | hlt
            · exact absurd hi' hi
            · exact Or.inr (Nat.le_trans h.size hlt)
        · subst h4; simp [Ob.live] at hl
        · have hni := hnotout id hno
          simp only [if_neg hni]
          have hlv := h.liv id o ho hl
          refine ⟨fun ha => ?_, Nat.lt_of_lt_of_le hlv.2.1 hf.size, hlv.2.2⟩
          obtain ⟨b1, b2⟩ := hA2back _ ha hlv.2.1
          rcases hks with hk | hk
          · exact hlv.1 (b2 hk)
          · exact hsep id o ho hl hk b1
      inj := fun i j oi oj hi hj li lj hij => by
        have loc : ∀ id o, after sto outs sn keep id = some o → o.live = true → (id ∈ keysOf outs ∨ (id ∉ keysOf outs ∧ sto id = some o)) := by
          intro id o ho hl
          rcases haft id o ho with ho | ⟨hno, ⟨sz, es, h1, h2, h3, h4⟩ | ⟨ho, _⟩⟩
          · exact Or.inl (stoOf_some.1 (by rw [ho]; rfl))
          · subst h4; simp [Ob.live] at hl
          · exact Or.inr ⟨hnotout id hno, ho⟩
        have cross : ∀ p q oq, p ∈ keysOf outs → q ∉ keysOf outs → sto q = some oq → oq.live = true → φ1 p ≠ φ q := by
          intro p q oq hp hq hoq lq he
          rcases hf.fresh p hp with hin | hlt
          · rw [hf.agree p hin] at he
            obtain ⟨ok, hok⟩ := Option.isSome_iff_exists.1 (stoOf_some.2 hin)
            exact h.inj p q ok oq (hself p ok hok) hoq (hm.shutIn.live p ok hok) lq (fun e => hq (e ▸ hp)) he
          · have := (h.liv q oq hoq lq).2.1; omega
        rcases loc i oi hi li with hi' | ⟨hi', hsi⟩ <;> rcases loc j oj hj lj with hj' | ⟨hj', hsj⟩
        · simp only [φout i hi', φout j hj']; exact hf.holds.inj i j hi' hj' hij
        · simp only [φout i hi', if_neg hj']; exact cross i j oj hi' hj' hsj lj
        · simp only [φout j hj', if_neg hi']; exact (cross j i oi hj' hi' hsi li).symm
        · simp only [if_neg hi', if_neg hj']; exact h.inj i j oi oj hsi hsj li lj hij
      alt := fun b hb => hf.alt b (hA2sub b hb)
      gi := E.stable w w' (fun b hb => (hg.keeps b (h.gA b hb)).2) h.gi
      gA := fun b hb => hA2A b (h.gA b hb)
      os := hf.os.trans h.os
      tape := hf.tape.trans h.tape
      output := hf.output.trans h.output
      size := Nat.le_trans h.size hf.size
      old := fun b hb hne => by
        refine (hf.old b (Nat.lt_of_lt_of_le hb h.size) fun k hk he => ?_).trans (h.old b hb hne)
        obtain ⟨ok, hok⟩ := Option.isSome_iff_exists.1 (stoOf_some.2 hk)
        rcases (h.liv k ok (hself k ok hok) (hm.shutIn.live k ok hok)).2.2 with ⟨h1, h2⟩ | h1
        · exact hne k h1 (by rw [← h2, he])
        · omega
      asub := fun b hb => hA2A b (h.asub b hb)
      anew := fun b hb => by
        by_cases hlt : b < w.heap.size
        · obtain ⟨b1, _⟩ := hA2back b hb hlt
          rcases b1 with b1 | ⟨i, hi, rfl⟩
          · exact h.anew b b1
          · obtain ⟨sz, es, hs⟩ := hsl i hi
            rcases (h.liv i _ hs rfl).2.2 with ⟨hio, _⟩ | hl
            · have := h.ioc i hio; have := (hsn i hi).1; omega
            · exact Or.inr hl
        · exact Or.inr (by have := h.size; omega)
      cap := fun b n hb => hg.cap b n (h.cap b n hb)
      ioc := h.ioc
      iok := fun id o ho hl hio => by
        rcases haft id o ho with ho | ⟨hno, ⟨sz, es, h1, h2, h3, h4⟩ | ⟨ho, _⟩⟩
        · have hk := stoOf_some.1 (by rw [ho]; rfl : (stoOf outs id).isSome = true)
          simp only [φout id hk]
          rcases hnew id hk with hi | hn
          · rw [hf.agree id hi]
            obtain ⟨oi, hoi⟩ := Option.isSome_iff_exists.1 (stoOf_some.2 hi)
            exact h.iok id oi (hself id oi hoi) (hm.shutIn.live id oi hoi) hio
          · have := h.ioc id hio; omega
        · subst h4; simp [Ob.live] at hl
        · have hni := hnotout id hno
          simp only [if_neg hni]
          exact h.iok id o ho hl hio }
    refine ⟨A2, _, hrs, hg, fun id hs => φold id hs, hmono, hres _ fun i hi => φout i (hm.shutOut.vals i (by simpa [idsL] using hi)), fun i hi => houtsome i (hm.shutOut.vals i (by simpa [idsL] using hi))⟩
  rcases hrun with ⟨h1, h2⟩ | ⟨v, w', h1, h2⟩
  · exact Or.inl ⟨h1, h2.mono fun e w' ⟨v, he, hf⟩ => ⟨v, he, fin v w' hf⟩⟩
  · exact Or.inr ⟨v, w', h1, fin v w' h2⟩

end
end Go.Sx
