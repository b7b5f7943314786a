/- A region, in whatever order. No statement of a seat is proved here. -/
import Derived.Test.YtgnokggmbkhnbaaSxRegion
set_option linter.unusedSimpArgs false
set_option linter.unusedVariables false
namespace Go.Sx

def slimG (ops : Array Oper) (g : Option (Nat × Bool)) : Option (Option (Nat × Bool)) :=
  match g with
  | none => some none
  | some (j, want) => match (ops[j]?).bind (·.dst) with
    | some t => some (some (t, want))
    | none => none

def slimK (P : Program) (G : Nat → Option (List T)) : Op → Option SK
  | .call ⟨.value f, args, _⟩ => match slimV G f, slimVs G args.toList with
    | some f, some as => some (.call f as)
    | _, _ => none
  | op => some (.op ((slimOp P G op).getD .bad))

def dstOk (n : Nat) : Option Nat → Bool
  | some d => d < n
  | none => true

def slimO1 (P : Program) (G : Nat → Option (List T)) (n : Nat) (ops : Array Oper) (o : Oper) : Option SO :=
  match slimG ops o.guard, slimK P G o.op with
  | some g, some k => if dstOk n o.dst then some ⟨o.dst, k, g⟩ else none
  | _, _ => none

def slimAll (P : Program) (G : Nat → Option (List T)) (n : Nat) (ops : Array Oper) : List Oper → Option (List SO)
  | [] => some []
  | o :: l => match slimO1 P G n ops o, slimAll P G n ops l with
    | some a, some b => some (a :: b)
    | _, _ => none

/-- Which operations stand ahead of which: bits. -/
def befStep (acc : List Nat) (o : Oper) : Nat := o.after.toList.foldl (fun s e => if Region.binds .any e then s ||| 2 ^ e.on ||| acc.getD e.on 0 else s) 0

def befL (l : List Oper) : List Nat := l.foldl (fun acc o => acc ++ [befStep acc o]) []

def edgesOk (l : List Oper) : Bool := l.zipIdx.all fun p => p.1.after.toList.all fun e => !Region.binds .any e || decide (e.on < p.2)

def hasSlot (l : List SV) (d : Nat) : Bool := l.any fun
  | .tm k => k == d
  | .c _ => false

def slotApart (o o' : SO) : Bool :=
  (match o.dst with
   | some d => !hasSlot o'.svs d && o'.dst != some d
   | none => true) &&
  (match o'.dst with
   | some d => !hasSlot o.svs d
   | none => true)

/-- No object is looked at or written. -/
def SK.quiet : SK → Bool
  | .op (.alloc _) | .op (.box _) | .op (.bsl ..) | .op (.mksl ..) | .op (.load ..) | .op (.store ..) | .op (.app ..) | .op (.cpy ..) | .op (.clr ..) => false
  | .op _ => true
  | .call .. => false

def SK.reads : SK → Bool
  | .op (.load ..) => true
  | _ => false

/-- The pairs of which something is to be shown. -/
def pairsOf (bef : List Nat) (l : List SO) : List (Nat × Nat) :=
  (l.zipIdx).flatMap fun p => ((l.take p.2).zipIdx).filterMap fun q =>
    if (bef.getD p.2 0).testBit q.2 || p.1.k.quiet || q.1.k.quiet || (p.1.k.reads && q.1.k.reads) then none else some (q.2, p.2)

def slotsOk (bef : List Nat) (l : List SO) : Bool :=
  (l.zipIdx).all fun p => ((l.take p.2).zipIdx).all fun q => (bef.getD p.2 0).testBit q.2 || slotApart q.1 p.1

def slimReg (P : Program) (G : Nat → Option (List T)) (n : Nat) (ops : Array Oper) (draw : Bool) : Option (List SO × List (Nat × Nat)) :=
  match slimAll P G n ops ops.toList with
  | some l => if draw then (if edgesOk ops.toList && slotsOk (befL ops.toList) l then some (l, pairsOf (befL ops.toList) l) else none) else some (l, [])
  | none => none

/-- Two steps' objects are apart. -/
def apartR (a b : Rc) : Bool := (keysOf a.wr).all (fun i => !b.rd.contains i && !(keysOf b.wr).contains i) && (keysOf b.wr).all fun i => !a.rd.contains i

section
variable {P : Program} {E : Env} {G : Nat → Option (List T)} {F : Frm}

theorem slimAll_get {n : Nat} {ops : Array Oper} : ∀ {l : List Oper} {sos : List SO}, slimAll P G n ops l = some sos → sos.length = l.length ∧ ∀ (i : Nat) (o : Oper), l[i]? = some o → ∃ so, sos[i]? = some so ∧ slimO1 P G n ops o = some so
  | [], sos, h => by simp [slimAll] at h; subst h; simp
  | o :: l, sos, h => by
    simp only [slimAll] at h
    split at h
    · rename_i a b h1 h2
      injection h with h; subst h
      obtain ⟨g1, g2⟩ := slimAll_get h2
      refine ⟨by simp [g1], fun i o' hi => ?_⟩
      cases i with
      | zero => simp at hi; subst hi; exact ⟨a, rfl, h1⟩
      | succ i => simpa using g2 i o' (by simpa using hi)
    · simp at h

theorem slimO1_facts {n : Nat} {ops : Array Oper} {o : Oper} {so : SO} (h : slimO1 P G n ops o = some so) :
    so.dst = o.dst ∧ (∀ d, o.dst = some d → d < n) ∧ (so.guard = match o.guard with | none => none | some (j, want) => ((ops[j]?).bind (·.dst)).map fun t => (t, want)) ∧
    (∀ j want, o.guard = some (j, want) → ((ops[j]?).bind (·.dst)).isSome = true) ∧
    (match so.k with
      | .op x => x = .bad ∨ slimOp P G o.op = some x
      | .call f as => ∃ xf xs ts, o.op = .call ⟨.value xf, xs, ts⟩ ∧ slimV G xf = some f ∧ slimVs G xs.toList = some as) := by
  unfold slimO1 at h
  split at h
  · rename_i g k hg hk
    split at h
    · rename_i hd
      injection h with h; subst h
      refine ⟨rfl, fun d hdd => by rw [hdd] at hd; simpa [dstOk] using hd, ?_, ?_, ?_⟩
      · unfold slimG at hg
        split at hg
        · rename_i hgo; injection hg with hg; subst hg; simp [hgo]
        · rename_i j want hgo
          split at hg
          · rename_i t ht; injection hg with hg; subst hg; simp [hgo, ht]
          · simp at hg
      · intro j want hgo
        unfold slimG at hg
        rw [hgo] at hg
        simp only at hg
        split at hg
        · rename_i t ht; simp [ht]
        · simp at hg
      · unfold slimK at hk
        split at hk
        · rename_i f args ts hop
          split at hk
          · rename_i f' as' hf has
            injection hk with hk; subst hk
            exact ⟨f, args, ts, hop, hf, has⟩
          · simp at hk
        · injection hk with hk; subst hk
          cases hx : slimOp P G o.op with
          | none => exact Or.inl rfl
          | some x => exact Or.inr rfl
    · simp at h
  · simp at h

theorem quiet_can {id : Nat} {o : SO} {st : St} {r : Rc} (hq : o.k.quiet = true) (h : Can P E id o st r) : r.rd = [] ∧ r.wr = [] := by
  unfold Can at h
  split at h
  · subst h; exact ⟨rfl, rfl⟩
  · unfold CanK at h
    cases hk : o.k with
    | call f as => rw [hk] at hq; simp [SK.quiet] at hq
    | op x =>
      rw [hk] at h hq
      simp only at h
      obtain ⟨h1, h2⟩ := h
      cases x <;> simp [SK.quiet] at hq <;> simp only [rds] at h2 <;> refine ⟨h2, ?_⟩ <;> simp only [core] at h1
      all_goals
        repeat' split at h1
        all_goals first
          | (simp only [Option.some.injEq, Prod.mk.injEq] at h1; exact h1.2.symm)
          | (simp only [Option.map_eq_some_iff] at h1; obtain ⟨_, _, h1⟩ := h1; injection h1 with _ h1; exact h1.symm)
          | simp at h1
  · exact h.elim

theorem reads_can {id : Nat} {o : SO} {st : St} {r : Rc} (hq : o.k.reads = true) (h : Can P E id o st r) : r.wr = [] := by
  unfold Can at h
  split at h
  · subst h; rfl
  · unfold CanK at h
    cases hk : o.k with
    | call f as => rw [hk] at hq; simp [SK.reads] at hq
    | op x =>
      rw [hk] at h hq
      simp only at h
      obtain ⟨h1, h2⟩ := h
      cases x <;> simp [SK.reads] at hq
      simp only [core] at h1
      repeat' split at h1
      all_goals first
        | (simp only [Option.some.injEq, Prod.mk.injEq] at h1; exact h1.2.symm)
        | (simp only [Option.map_eq_some_iff] at h1; obtain ⟨_, _, h1⟩ := h1; injection h1 with _ h1; exact h1.symm)
        | simp at h1
  · exact h.elim

theorem hasSlot_spec {l : List SV} {d : Nat} (h : hasSlot l d = false) : ∀ k, SV.tm k ∈ l → k ≠ d := by
  intro k hk e
  subst e
  have : hasSlot l k = true := by
    unfold hasSlot
    rw [List.any_eq_true]
    exact ⟨.tm k, hk, by simp⟩
  rw [this] at h; simp at h

theorem apart_of {o o' : SO} {r r' : Rc} (h1 : slotApart o o' = true) (h2 : apartR r r' = true) : Apart o r o' r' := by
  unfold slotApart at h1
  unfold apartR at h2
  simp only [Bool.and_eq_true, List.all_eq_true, Bool.not_eq_true', List.contains_eq_mem, decide_eq_false_iff_not] at h1 h2
  refine ⟨fun d hd => ?_, fun d hd => ?_, fun i hi => h2.1 i hi, fun i hi => h2.2 i hi⟩
  · have := h1.1
    rw [hd] at this
    simp only [Bool.and_eq_true, Bool.not_eq_true', bne_iff_ne, ne_eq] at this
    exact ⟨hasSlot_spec this.1, this.2⟩
  · have := h1.2
    rw [hd] at this
    simp only [Bool.not_eq_true'] at this
    exact hasSlot_spec this

/-- The steps of a region in the text's order, each with its own number. -/
def steps (base : Nat) : List SO → List Rc → List (Nat × SO × Rc)
  | o :: l, r :: rs => (base, o, r) :: steps (base + 1) l rs
  | _, _ => []

theorem steps_get : ∀ {base : Nat} {l : List SO} {rs : List Rc} {i : Nat} {o : SO} {r : Rc}, l[i]? = some o → rs[i]? = some r → (steps base l rs)[i]? = some (base + i, o, r)
  | _, [], _, _, _, _, h, _ => by simp at h
  | _, _ :: _, [], _, _, _, _, h => by simp at h
  | base, o :: l, r :: rs, 0, o', r', h1, h2 => by simp at h1 h2; subst h1; subst h2; simp [steps]
  | base, o :: l, r :: rs, i + 1, o', r', h1, h2 => by
    have := steps_get (base := base + 1) (l := l) (rs := rs) (i := i) (o := o') (r := r') (by simpa using h1) (by simpa using h2)
    simp only [steps, List.getElem?_cons_succ, this]
    rw [show base + 1 + i = base + (i + 1) from by omega]

theorem steps_len : ∀ {base : Nat} {l : List SO} {rs : List Rc}, rs.length = l.length → (steps base l rs).length = l.length
  | _, [], [], _ => rfl
  | _, [], _ :: _, h => by simp at h
  | _, _ :: _, [], h => by simp at h
  | base, o :: l, r :: rs, h => by simp only [steps, List.length_cons]; rw [steps_len (by simpa using h)]

theorem region_text (hG : GOK E G) {st' : St} {n : Nat} {ops : Array Oper} {Q : Exit → Act → World → Prop} {base : Nat} (hQ : ∀ a' w' A' φ', RS E F st'.sto w' A' φ' → RE st' n a' w' A' φ' → Q .normal a' w')
    : ∀ (k : Nat) (sos : List SO) (rs : List Rc) (st : St) (a : Act) (w : World) (A : Nat → Prop) (φ : Nat → Nat), (∀ i o, sos[i]? = some o → ∃ x, ops[k + i]? = some x ∧ slimO1 P G n ops x = some o) → rs.length = sos.length →
      RS E F st.sto w A φ → RE st n a w A φ → Runs P E (steps (base + k) sos rs) st st' → wpOps P ops Q (List.range' k sos.length) a w
  | k, [], [], st, a, w, A, φ, _, _, h, r, hr => by
    simp only [steps, Runs] at hr
    subst hr
    simp only [List.length_nil, List.range'_zero, wpOps]
    exact hQ a w A φ h r
  | k, [], _ :: _, _, _, _, _, _, _, hl, _, _, _ => by simp at hl
  | k, _ :: _, [], _, _, _, _, _, _, hl, _, _, _ => by simp at hl
  | k, o :: sos, rc :: rs, st, a, w, A, φ, ho, hl, h, r, hr => by
    simp only [steps, Runs] at hr
    obtain ⟨x, hx, hsl⟩ := ho 0 o rfl
    rw [Nat.add_zero] at hx
    obtain ⟨f1, f2, f3, f4, f5⟩ := slimO1_facts hsl
    rw [List.length_cons, List.range'_succ, wpOps_cons]
    refine can_sim hG h r hx f1 f2 f3 f4 f5 hr.1 fun a' w' A' φ' h' r' => ?_
    refine region_text hG hQ (k + 1) sos rs _ a' w' A' φ' (fun i o' hi => ?_) (by simpa using hl) h' r' hr.2
    obtain ⟨y, hy, hys⟩ := ho (i + 1) o' (by simpa using hi)
    exact ⟨y, by rw [show k + 1 + i = k + (i + 1) from by omega]; exact hy, hys⟩

end
end Go.Sx
