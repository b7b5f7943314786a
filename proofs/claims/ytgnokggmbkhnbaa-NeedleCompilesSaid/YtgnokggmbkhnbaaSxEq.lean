/- Structs and arrays of numbers and truths, held against each other. No statement of a seat is proved here. -/
import Derived.Test.YtgnokggmbkhnbaaSxOps
set_option linter.unusedSimpArgs false
set_option linter.unusedVariables false
namespace Go.Sx
section
variable {P : Program}

/-- Two values of a kind: do they agree? -/
def eqV : EK → Value → Value → Option Bool
  | .i k, .int k1 x, .int k2 y => if k1 = k ∧ k2 = k then some (x == y) else none
  | .b, .bool x, .bool y => some (x == y)
  | .s, .string x, .string y => some (x.toList == y.toList)
  | _, _, _ => none

def eqVs : List EK → List Value → List Value → Option Bool
  | [], [], [] => some true
  | k :: ks, x :: xs, y :: ys => match eqV k x y, eqVs ks xs ys with
    | some a, some b => some (a && b)
    | _, _ => none
  | _, _, _ => none

theorem eqVs_len : ∀ {ks : List EK} {xs ys : List Value} {r : Bool}, eqVs ks xs ys = some r → xs.length = ks.length ∧ ys.length = ks.length
  | [], [], [], _, _ => ⟨rfl, rfl⟩
  | [], _ :: _, _, _, h => by simp [eqVs] at h
  | [], [], _ :: _, _, h => by simp [eqVs] at h
  | _ :: _, [], _, _, h => by simp [eqVs] at h
  | _ :: _, _ :: _, [], _, h => by simp [eqVs] at h
  | k :: ks, x :: xs, y :: ys, r, h => by
    simp only [eqVs] at h
    split at h
    · rename_i a b h1 h2
      have := eqVs_len h2
      simp [this.1, this.2]
    · simp at h

theorem eqVs_append : ∀ {ks ls : List EK} {xs ys : List Value} {r : Bool}, eqVs (ks ++ ls) xs ys = some r →
    ∃ a b, eqVs ks (xs.take ks.length) (ys.take ks.length) = some a ∧ eqVs ls (xs.drop ks.length) (ys.drop ks.length) = some b ∧ r = (a && b)
  | [], ls, xs, ys, r, h => ⟨true, r, by simp [eqVs], by simpa using h, by simp⟩
  | k :: ks, ls, [], ys, r, h => by simp [eqVs] at h
  | k :: ks, ls, x :: xs, [], r, h => by simp [eqVs] at h
  | k :: ks, ls, x :: xs, y :: ys, r, h => by
    simp only [List.cons_append, eqVs] at h
    split at h
    · rename_i a b h1 h2
      obtain ⟨c, d, h3, h4, h5⟩ := eqVs_append h2
      simp at h
      refine ⟨a && c, d, ?_, by simpa using h4, by rw [← h, h5, Bool.and_assoc]⟩
      simp [eqVs, h1, h3]
    · simp at h

def sizeT (P : Program) (t : TypeId) : Option Nat := (P.info? t).map (·.size)

def isAggD : TypeDesc → Bool
  | .struct _ | .array _ _ => true
  | _ => false

def aggT (P : Program) (t : TypeId) : Bool := (P.underlying t).any isAggD

/-- The kinds of a type's cells, where it has numbers, truths and texts alone. -/
def flatF (fl : TypeId → Option (List EK)) (P : Program) : List Field → Nat → Option (List EK)
  | [], _ => some []
  | f :: fs, off => match fl f.type, flatF fl P fs (off + (sizeT P f.type).getD 0) with
    | some a, some b => if f.name ≠ "_" ∧ f.offset = off ∧ sizeT P f.type = some a.length then some (a ++ b) else none
    | _, _ => none

def flat (P : Program) : Nat → TypeId → Option (List EK)
  | 0, _ => none
  | n + 1, t => match P.underlying t with
    | some .bool => some [.b]
    | some (.int k) => some [.i k]
    | some .string => some [.s]
    | some (.struct fs) => if P.stoodInHeld t = false then flatF (flat P n) P fs.toList 0 else none
    | some (.array len e) => match flat P n e with
      | some a => if sizeT P e = some a.length then some (List.replicate len a).flatten else none
      | none => none
    | _ => none

/-- The value that some cells make. -/
def packV (agg : Bool) (vs : List Value) : Value := if agg then .agg vs.toArray else vs.headD undef

theorem run_sizeOf {t : TypeId} {n : Nat} (h : sizeT P t = some n) (w : World) : (sizeOf t).run P w = .ok n w := by
  unfold sizeT at h
  cases hi : P.info? t with
  | none => simp [hi] at h
  | some i => simp [hi] at h; simp [sizeOf, typeInfo, hi, h]

theorem run_isAgg {t : TypeId} (h : (P.underlying t).isSome = true) (w : World) : (isAgg t).run P w = .ok (aggT P t) w := by
  obtain ⟨d, hd⟩ := Option.isSome_iff_exists.1 h
  simp only [isAgg, Sem.run_bind, run_underlying hd, Result.andThen_ok, aggT, hd, Option.any_some]
  cases d <;> rfl

theorem run_part {t : TypeId} {n : Nat} (hs : sizeT P t = some n) (hu : (P.underlying t).isSome = true) (w : World) (vs : List Value) (off : Nat) (h1 : aggT P t = false → n = 1 ∧ off < vs.length) :
    (part t vs.toArray off).run P w = .ok (packV (aggT P t) ((vs.drop off).take n)) w := by
  simp only [part, Sem.run_bind, run_isAgg hu, Result.andThen_ok]
  cases ha : aggT P t with
  | true =>
    simp only [if_true, Sem.run_bind, run_sizeOf hs, Result.andThen_ok, Sem.run_pure, packV]
    congr 2
    apply Array.ext'
    simp [List.take_drop]
  | false =>
    obtain ⟨hn, hlt⟩ := h1 ha; subst hn
    simp only [Bool.false_eq_true, if_false, packV]
    rw [List.getElem?_toArray, List.getElem?_eq_getElem hlt]
    simp only [Sem.run_pure]
    congr 1
    rw [List.drop_eq_getElem_cons hlt]; rfl

theorem flat_agg : ∀ {n : Nat} {t : TypeId} {ks : List EK}, flat P n t = some ks → (P.underlying t).isSome = true ∧ (aggT P t = false → ks.length = 1)
  | 0, _, _, h => by simp [flat] at h
  | n + 1, t, ks, h => by
    simp only [flat] at h
    have key : ∀ d, P.underlying t = some d → (isAggD d = false → ks.length = 1) → (P.underlying t).isSome = true ∧ (aggT P t = false → ks.length = 1) :=
      fun d hd hk => ⟨by rw [hd]; rfl, fun ha => hk (by unfold aggT at ha; rw [hd] at ha; simpa using ha)⟩
    split at h <;> rename_i hu
    · exact key _ hu (fun _ => by injection h with h; rw [← h]; rfl)
    · exact key _ hu (fun _ => by injection h with h; rw [← h]; rfl)
    · exact key _ hu (fun _ => by injection h with h; rw [← h]; rfl)
    · exact key _ hu (fun hx => by simp [isAggD] at hx)
    · exact key _ hu (fun hx => by simp [isAggD] at hx)
    · simp at h

theorem run_equalIn_array (d : Nat) (t e : TypeId) (len : Nat) (xs ys : Array Value) (ht : P.underlying t = some (.array len e)) (n : Nat) (hn : sizeT P e = some n) (w : World) (f : Nat → Bool)
    (h : ∀ i, i < len → ((do let a ← part e xs (i * n); let b ← part e ys (i * n); Op.equalIn d e a b) : Sem Bool).run P w = .ok (f i) w) :
    (Op.equalIn (d + 1) t (.agg xs) (.agg ys)).run P w = .ok ((List.range len).all f) w := by
  simp only [Op.equalIn, Sem.run_bind, run_underlying ht, Result.andThen_ok, run_sizeOf hn]
  rw [Std.Legacy.Range.forIn_eq_forIn_range']
  have hsz : ([0:len] : Std.Legacy.Range).size = len := by simp [Std.Legacy.Range.size]
  rw [hsz]
  have key : ∀ (k s : Nat), s + k = len → ((forIn (List.range' s k) ((none : Option Bool), ()) fun i (_ : Option Bool × Unit) => (do
      let a ← part e xs (i * n)
      let b ← part e ys (i * n)
      let r ← Op.equalIn d e a b
      if (!r) = true then pure (ForInStep.done (some false, ())) else pure (ForInStep.yield (none, ())) : Sem (ForInStep (Option Bool × Unit)))) : Sem (Option Bool × Unit)).run P w =
        .ok (if (List.range' s k).all f then (none, ()) else (some false, ())) w := by
    intro k
    induction k with
    | zero => intro s _; simp
    | succ k ih =>
      intro s hs
      have h0 := h s (by omega)
      simp only [Sem.run_bind] at h0
      rw [List.range'_succ]
      simp only [List.forIn_cons, Sem.run_bind, List.all_cons]
      cases h1 : (part e xs (s * n)).run P w with
      | halt x w1 => simp [h1] at h0
      | ok a w1 =>
        simp only [h1, Result.andThen_ok] at h0 ⊢
        cases h2 : (part e ys (s * n)).run P w1 with
        | halt x w2 => simp [h2] at h0
        | ok b w2 =>
          simp only [h2, Result.andThen_ok] at h0 ⊢
          rw [h0]
          simp only [Result.andThen_ok]
          have ih' := ih (s + 1) (by omega)
          by_cases hf : f s = true
          · simp only [hf, Bool.not_true, Bool.false_eq_true, if_false, Bool.true_and, Sem.run_pure, Result.andThen_ok]
            exact ih'
          · have hf' : f s = false := by simpa using hf
            simp [hf']
  have hk := key len 0 (by omega)
  have e1 : (⟨0, len, 1, by decide⟩ : Std.Legacy.Range).start = 0 := rfl
  refine (congrArg (fun r => Result.andThen r _) hk).trans ?_
  rw [← List.range_eq_range']
  by_cases hf : (List.range len).all f = true
  · simp [hf]
  · have hf' : (List.range len).all f = false := by simpa using hf
    simp [hf']

theorem eqF_flat {d : Nat} {fl : TypeId → Option (List EK)} (w : World)
    (ih : ∀ (t : TypeId) (ks : List EK), fl t = some ks → ((P.underlying t).isSome = true ∧ (aggT P t = false → ks.length = 1)) ∧ ∀ (vs us : List Value) (r : Bool), eqVs ks vs us = some r → (Op.equalIn d t (packV (aggT P t) vs) (packV (aggT P t) us)).run P w = .ok r w)
    (vs us : List Value) : ∀ (fs : List Field) (off : Nat) (ks : List EK), flatF fl P fs off = some ks → ∀ r, eqVs ks (vs.drop off) (us.drop off) = some r →
      (Op.eqFields d vs.toArray us.toArray fs).run P w = .ok r w
  | [], off, ks, h, r, he => by
    simp only [flatF, Option.some.injEq] at h; subst h
    cases h1 : vs.drop off <;> cases h2 : us.drop off <;> simp [h1, h2, eqVs] at he
    subst he; simp [Op.eqFields]
  | f :: fs, off, ks, h, r, he => by
    simp only [flatF] at h
    split at h
    · rename_i a b h1 h2
      split at h
      · rename_i hc
        obtain ⟨hn, ho, hs⟩ := hc
        injection h with h; subst h
        obtain ⟨p, q, hp, hq, hr⟩ := eqVs_append he
        obtain ⟨⟨hu, h1'⟩, ih'⟩ := ih f.type a h1
        have l1 := eqVs_len hp
        simp only [List.length_take, List.length_drop] at l1
        have g1 : aggT P f.type = false → a.length = 1 ∧ off < vs.length := fun hg => ⟨h1' hg, by have := h1' hg; omega⟩
        have g2 : aggT P f.type = false → a.length = 1 ∧ off < us.length := fun hg => ⟨h1' hg, by have := h1' hg; omega⟩
        have hrec := eqF_flat (d := d) w ih vs us fs _ b h2 q (by simpa [hs, List.drop_drop] using hq)
        simp only [Op.eqFields, if_pos hn, ho, Sem.run_bind, run_part hs hu w vs off g1, run_part hs hu w us off g2, Result.andThen_ok, ih' _ _ p hp]
        cases p with
        | true => simpa [hr] using hrec
        | false => simp [hr]
      · simp at h
    · simp at h

theorem eqVs_rep {a : List EK} : ∀ {len : Nat} {vs us : List Value} {r : Bool}, eqVs (List.replicate len a).flatten vs us = some r →
    ∃ f : Nat → Bool, (∀ i, i < len → eqVs a ((vs.drop (i * a.length)).take a.length) ((us.drop (i * a.length)).take a.length) = some (f i)) ∧ r = (List.range len).all f
  | 0, vs, us, r, h => by
    refine ⟨fun _ => true, fun i hi => by omega, ?_⟩
    cases vs <;> cases us <;> simp [eqVs] at h
    simp [h]
  | len + 1, vs, us, r, h => by
    rw [List.replicate_succ, List.flatten_cons] at h
    obtain ⟨p, q, hp, hq, hr⟩ := eqVs_append h
    obtain ⟨f, hf, hq'⟩ := eqVs_rep hq
    refine ⟨fun i => match i with | 0 => p | i + 1 => f i, fun i hi => ?_, ?_⟩
    · cases i with
      | zero => simpa using hp
      | succ i =>
        have := hf i (by omega)
        simp only [List.drop_drop] at this
        rwa [show a.length + i * a.length = (i + 1) * a.length from by rw [Nat.add_mul]; omega] at this
    · rw [List.range_succ_eq_map, List.all_cons, List.all_map, hr, hq']; rfl

theorem eq_flat (w : World) : ∀ (n : Nat) (t : TypeId) (ks : List EK), flat P n t = some ks → ∀ (d : Nat), n ≤ d → ∀ (vs us : List Value) (r : Bool), eqVs ks vs us = some r →
    (Op.equalIn d t (packV (aggT P t) vs) (packV (aggT P t) us)).run P w = .ok r w
  | 0, _, _, h, _, _, _, _, _, _ => by simp [flat] at h
  | n + 1, t, ks, h, 0, hd, _, _, _, _ => by omega
  | n + 1, t, ks, h, d + 1, hd, vs, us, r, he => by
    simp only [flat] at h
    split at h <;> rename_i hu
    · injection h with h; subst h
      have ha : aggT P t = false := by simp [aggT, hu, isAggD]
      obtain ⟨l1, l2⟩ := eqVs_len he
      match vs, us, l1, l2 with
      | [x], [y], _, _ =>
        simp only [eqVs] at he
        cases x <;> cases y <;> simp [eqV] at he
        subst he
        simp [ha, packV, Op.equalIn, run_underlying hu]
    · injection h with h; subst h
      have ha : aggT P t = false := by simp [aggT, hu, isAggD]
      obtain ⟨l1, l2⟩ := eqVs_len he
      match vs, us, l1, l2 with
      | [x], [y], _, _ =>
        simp only [eqVs] at he
        cases x with
        | int k1 x =>
          cases y with
          | int k2 y =>
            simp only [eqV] at he
            split at he
            · rename_i a b h1 h2
              split at h1
              · rename_i hk
                obtain ⟨rfl, rfl⟩ := hk
                injection h1 with h1
                simp at h2 he; subst h1; subst h2; subst he
                simp [ha, packV, Op.equalIn, run_underlying hu]
              · simp at h1
            · simp at he
          | _ => simp [eqV] at he
        | _ => simp [eqV] at he
    · injection h with h; subst h
      have ha : aggT P t = false := by simp [aggT, hu, isAggD]
      obtain ⟨l1, l2⟩ := eqVs_len he
      match vs, us, l1, l2 with
      | [x], [y], _, _ =>
        simp only [eqVs] at he
        cases x <;> cases y <;> simp [eqV] at he
        subst he
        simp [ha, packV, Op.equalIn, run_underlying hu, beq_toListBytes]
    · rename_i fs
      split at h
      · rename_i hst
        have ha : aggT P t = true := by simp [aggT, hu, isAggD]
        simp only [ha, packV, if_true]
        have hf : P.fieldsOf t = fs := by simp [Program.fieldsOf, hu]
        rw [run_equalIn_struct w d t _ _ (by rw [hf]; exact hu) hst, hf]
        exact eqF_flat w (fun t ks ht => ⟨flat_agg ht, fun vs us r hr => eq_flat w n t ks ht d (by omega) vs us r hr⟩) vs us fs.toList 0 ks h r (by simpa using he)
      · simp at h
    · rename_i len e
      split at h
      · rename_i a hfl
        split at h
        · rename_i hs
          injection h with h; subst h
          have ha : aggT P t = true := by simp [aggT, hu, isAggD]
          simp only [ha, packV, if_true]
          obtain ⟨f, hf, hr⟩ := eqVs_rep he
          obtain ⟨hue, h1e⟩ := flat_agg hfl
          rw [hr]
          refine run_equalIn_array d t e len _ _ hu a.length hs w f fun i hi => ?_
          have hi' := hf i hi
          have l1 := eqVs_len hi'
          simp only [List.length_take, List.length_drop] at l1
          have g1 : aggT P e = false → a.length = 1 ∧ i * a.length < vs.length := fun hg => ⟨h1e hg, by have := h1e hg; omega⟩
          have g2 : aggT P e = false → a.length = 1 ∧ i * a.length < us.length := fun hg => ⟨h1e hg, by have := h1e hg; omega⟩
          simp only [Sem.run_bind, run_part hs hue w vs _ g1, run_part hs hue w us _ g2, Result.andThen_ok]
          exact eq_flat w n e a hfl d (by omega) _ _ _ hi'
        · simp at h
      · simp at h
    · simp at h

end
end Go.Sx
