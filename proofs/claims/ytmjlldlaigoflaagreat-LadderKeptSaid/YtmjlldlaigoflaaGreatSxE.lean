/- Code, and how a function's contract comes of it. No statement of a seat is proved here. -/
import Derived.Test.YtmjlldlaigoflaaGreatSxD
set_option linter.unusedSimpArgs false
set_option linter.unusedVariables false
namespace Go.Sx

/-- Slim code. 'vars': the slots that are met behind a region. -/
inductive SC where
  | skip
  | ret
  | reg (base : Nat) (ops : List SO) (draw : Bool) (prs : List (Nat × Nat)) (vars : List Nat)
  | seq (a b : SC)
  | cond (c : SV) (a b : SC)
  | block (id : Nat) (a : SC)
  | loop (a : SC)
  | exit (id : Nat)
  | bad
  deriving Inhabited

def envOf : List (Nat × AV) → Nat → AV
  | [], _ => .undef
  | (i, x) :: l, k => if k = i then x else envOf l k

/-- Only some slots. -/
def keepE (vars : List Nat) (env : Nat → AV) : Nat → AV := envOf (vars.map fun k => (k, env k))

def slimC (P : Program) (G : Nat → Option (List T)) (n : Nat) (vars : List Nat) : Nat → Code → Option (SC × Nat)
  | b, .skip => some (.skip, b)
  | b, .ret => some (.ret, b)
  | b, .exit id => some (.exit id, b)
  | b, .region _ ops draw => match slimReg P G n ops draw with
    | some (l, prs) => some (.reg b l draw prs vars, b + l.length)
    | none => none
  | b, .seq x y => match slimC P G n vars b x with
    | some (x', b') => match slimC P G n vars b' y with
      | some (y', b'') => some (.seq x' y', b'')
      | none => none
    | none => none
  | b, .cond c x y => match slimV G c, slimC P G n vars b x with
    | some c', some (x', b') => match slimC P G n vars b' y with
      | some (y', b'') => some (.cond c' x' y', b'')
      | none => none
    | _, _ => none
  | b, .block id x => match slimC P G n vars b x with
    | some (x', b') => some (.block id x', b')
    | none => none
  | b, .loop x => match slimC P G n vars b x with
    | some (x', b') => some (.loop x', b')
    | none => none
  | b, _ => some (.bad, b)

section
variable (P : Program) (E : Env) (io : List Nat)

/-- What a call in a region asks, and what then holds. -/
def callW (st : St) (f : SV) (as : List SV) (K : Rc → Prop) : Prop :=
  ∃ g first caps, f.ev st.env = .fn g first caps ∧ ∃ r ins outs sn keep ys, CallOk P E st.sto g (first ++ as.map (·.ev st.env) ++ caps) r ins outs sn keep ys ∧
    K ⟨r, idsL (first ++ as.map (·.ev st.env) ++ caps) ++ keysOf outs ++ sn, outs ++ (if keep then [] else froze st.sto sn)⟩

def opW (id : Nat) (k : SK) (st : St) (K : Rc → Prop) : Prop :=
  match k with
  | .op o => match core id o (·.ev st.env) st.sto with
    | some (x, wr) => K ⟨x, rds id o (·.ev st.env), wr⟩
    | none => False
  | .call f as => callW P E st f as K

def opsW (draw : Bool) : Nat → List SO → List Rc → St → (List Rc → St → Prop) → Prop
  | _, [], acc, st, K => K acc st
  | id, o :: l, acc, st, K =>
    match wantedA o.guard st.env with
    | some false => opsW draw (id + 1) l (if draw then acc ++ [⟨.tp [], [], []⟩] else acc) (st.app o.dst ⟨.tp [], [], []⟩) K
    | some true => opW P E id o.k st fun rc => opsW draw (id + 1) l (if draw then acc ++ [rc] else acc) (st.app o.dst rc) K
    | none => False

def okPairs (prs : List (Nat × Nat)) (acc : List Rc) : Prop := ∀ p ∈ prs, ∃ a b, acc[p.1]? = some a ∧ acc[p.2]? = some b ∧ apartR a b = true

/-- The weakest state from which code comes to Q. -/
def SC.wp : SC → (Exit → St → Prop) → St → Prop
  | .bad, _, _ => False
  | .skip, Q, st => Q .normal st
  | .ret, Q, st => Q .ret st
  | .exit id, Q, st => Q (.exit id) st
  | .reg base ops draw prs vars, Q, st => opsW P E draw base ops [] st fun acc st' => okPairs prs acc ∧ Q .normal ⟨keepE vars st'.env, st'.sto⟩
  | .seq a b, Q, st => a.wp (fun e s => match e with | .normal => b.wp Q s | e => Q e s) st
  | .cond c a b, Q, st => match c.ev st.env with
    | .t (.v (.bool t)) => (t = true → a.wp Q st) ∧ (t = false → b.wp Q st)
    | _ => False
  | .block id a, Q, st => a.wp (fun e s => match e with | .exit i => if i = id then Q .normal s else Q (.exit i) s | e => Q e s) st
  | .loop a, Q, st => ∃ (I : Nat → St → Prop), (∃ k s, Sub io st s ∧ I k s) ∧ ∀ k s, I k s → a.wp (fun e s' => match e with | .normal => ∃ j t, j < k ∧ Sub io s' t ∧ I j t | e => Q e s') s
end

section
variable {P : Program} {E : Env} {G : Nat → Option (List T)} {F : Frm}

theorem opsW_runs {draw : Bool} : ∀ {l : List SO} {id : Nat} {acc : List Rc} {st : St} {K : List Rc → St → Prop}, opsW P E draw id l acc st K → ∃ rs st', rs.length = l.length ∧ Runs P E (steps id l rs) st st' ∧ K (if draw then acc ++ rs else acc) st'
  | [], id, acc, st, K, h => ⟨[], st, rfl, by simp [steps, Runs], by simpa [opsW] using h⟩
  | o :: l, id, acc, st, K, h => by
    have next : ∀ rc, Can P E id o st rc → opsW P E draw (id + 1) l (if draw then acc ++ [rc] else acc) (st.app o.dst rc) K → ∃ rs st', rs.length = (o :: l).length ∧ Runs P E (steps id (o :: l) rs) st st' ∧ K (if draw then acc ++ rs else acc) st' := by
      intro rc hc hr
      obtain ⟨rs, st', h1, h2, h3⟩ := opsW_runs hr
      refine ⟨rc :: rs, st', by simp [h1], by simp only [steps, Runs]; exact ⟨hc, h2⟩, ?_⟩
      cases draw with
      | false => simpa using h3
      | true => simpa using h3
    simp only [opsW] at h
    split at h
    · rename_i hw
      exact next _ (by unfold Can; rw [hw]) h
    · rename_i hw
      unfold opW at h
      split at h
      · rename_i so hk
        split at h
        · rename_i x wr hc
          exact next ⟨x, rds id so (·.ev st.env), wr⟩ (by unfold Can; rw [hw]; simp only [CanK, hk]; exact ⟨hc, trivial⟩) h
        · exact h.elim
      · rename_i f as hk
        obtain ⟨g, first, caps, h1, r, ins, outs, sn, keep, ys, h2, h3⟩ := h
        exact next _ (by unfold Can; rw [hw]; simp only [CanK, hk]; exact ⟨g, first, caps, h1, ins, outs, sn, keep, ys, h2, rfl, rfl⟩) h3
    · exact h.elim

theorem envOf_keep (vars : List Nat) (env : Nat → AV) (k : Nat) : keepE vars env k = env k ∨ keepE vars env k = .undef := by
  unfold keepE
  induction vars with
  | nil => exact Or.inr rfl
  | cons i l ih =>
    simp only [List.map_cons, envOf]
    split
    · rename_i h; subst h; exact Or.inl rfl
    · exact ih

theorem RE.keep {st : St} {n : Nat} {a : Act} {w : World} {A : Nat → Prop} {φ : Nat → Nat} (r : RE st n a w A φ) (vars : List Nat) : RE ⟨keepE vars st.env, st.sto⟩ n a w A φ where
  size := r.size
  defers := r.defers
  val := fun k => by
    rcases envOf_keep vars st.env k with h | h
    · simp only [h]; exact r.val k
    · simp only [h, CA]
  nod := fun k id hid => by
    rcases envOf_keep vars st.env k with h | h
    · simp only [h] at hid; exact r.nod k id hid
    · simp only [h] at hid; simp [AV.ids] at hid

theorem wp_loop2 {c : Code} {Q : Exit → Act → World → Prop} (I : Nat → Act → World → Prop) (round : ∀ k a w, I k a w → c.wp P (Exit.then (fun a' w' => ∃ j, j < k ∧ I j a' w') Q) a w) {k : Nat} {a : Act} {w : World} (h : I k a w) : (Code.loop c).wp P Q a w := by
  intro b ks cs
  have key : ∀ n a w, I n a w → ∃ e a' w', Q e a' w' ∧ Arrives P (lone (b.at a (.code c :: .inLoop c :: ks)) cs w) b ks cs e a' w' := by
    intro n
    induction n using Nat.strongRecOn with
    | _ n ih =>
      intro a w hI
      obtain ⟨e, a₁, w₁, hq, harr⟩ := round n a w hI b (.inLoop c :: ks) cs
      cases e with
      | normal =>
        obtain ⟨j, hlt, hI₁⟩ := hq
        obtain ⟨e₂, a₂, w₂, hq₂, harr₂⟩ := ih j hlt a₁ w₁ hI₁
        exact ⟨e₂, a₂, w₂, hq₂, .of_steps (Steps.trans harr (.one step_inLoop)) harr₂⟩
      | exit id => exact ⟨_, a₁, w₁, hq, .pass (x := .inLoop c) rfl (fun _ _ => .inl (by simp)) harr⟩
      | goto l => exact ⟨_, a₁, w₁, hq, .pass (x := .inLoop c) rfl (fun _ _ => .inl (by simp)) harr⟩
      | ret => exact ⟨_, a₁, w₁, hq, .pass (x := .inLoop c) rfl (fun _ _ => .inl (by simp)) harr⟩
      | panic ch => exact ⟨_, a₁, w₁, hq, .pass (x := .inLoop c) rfl (fun _ _ => .inl (by simp)) harr⟩
      | outgrown => exact ⟨_, a₁, w₁, hq, .pass (x := .inLoop c) rfl (fun _ _ => .inl (by simp)) harr⟩
  obtain ⟨e, a', w', hq, harr⟩ := key _ a w h
  exact ⟨e, a', w', hq, .of_steps (.one step_loop) harr⟩

/-- An abstract end, said of the machine. -/
def Lift (E : Env) (F : Frm) (n : Nat) (Q : Exit → St → Prop) : Exit → Act → World → Prop := fun e a w => ∃ st A φ, Q e st ∧ RS E F st.sto w A φ ∧ RE st n a w A φ

theorem code_ok (hm : P.follows .mixedOrders = true) (hG : GOK E G) {n : Nat} {vars : List Nat} : ∀ (c : Code) (b b' : Nat) (sc : SC), slimC P G n vars b c = some (sc, b') → ∀ (Q : Exit → St → Prop) (st : St) (a : Act) (w : World) (A : Nat → Prop) (φ : Nat → Nat),
    sc.wp P E F.io Q st → RS E F st.sto w A φ → RE st n a w A φ → c.wp P (Lift E F n Q) a w
  | .skip, b, b', sc, hs, Q, st, a, w, A, φ, hw, h, r => by
    simp only [slimC, Option.some.injEq, Prod.mk.injEq] at hs
    obtain ⟨rfl, rfl⟩ := hs
    exact wp_skip ⟨st, A, φ, hw, h, r⟩
  | .ret, b, b', sc, hs, Q, st, a, w, A, φ, hw, h, r => by
    simp only [slimC, Option.some.injEq, Prod.mk.injEq] at hs
    obtain ⟨rfl, rfl⟩ := hs
    exact wp_ret ⟨st, A, φ, hw, h, r⟩
  | .exit id, b, b', sc, hs, Q, st, a, w, A, φ, hw, h, r => by
    simp only [slimC, Option.some.injEq, Prod.mk.injEq] at hs
    obtain ⟨rfl, rfl⟩ := hs
    exact wp_exit ⟨st, A, φ, hw, h, r⟩
  | .region id ops draw, b, b', sc, hs, Q, st, a, w, A, φ, hw, h, r => by
    simp only [slimC] at hs
    split at hs
    · rename_i l prs hsl
      simp only [Option.some.injEq, Prod.mk.injEq] at hs
      obtain ⟨rfl, rfl⟩ := hs
      simp only [SC.wp] at hw
      obtain ⟨rs, st', h1, h2, h3, h4⟩ := opsW_runs hw
      refine region_ok hm hG hsl (base := b) (fun a' w' A' φ' h' r' => ⟨_, A', φ', h4, h', r'.keep vars⟩) h1 h2 (fun p hp => ?_) h r
      cases draw with
      | false =>
        unfold slimReg at hsl
        split at hsl
        · simp at hsl; rw [hsl.2] at hp; simp at hp
        · simp at hsl
      | true => simpa using h3 p hp
    · simp at hs
  | .seq x y, b, b', sc, hs, Q, st, a, w, A, φ, hw, h, r => by
    simp only [slimC] at hs
    split at hs
    · rename_i x' b1 hx
      split at hs
      · rename_i y' b2 hy
        simp only [Option.some.injEq, Prod.mk.injEq] at hs
        obtain ⟨rfl, rfl⟩ := hs
        simp only [SC.wp] at hw
        refine wp_seq (wp_mono (code_ok hm hG x b b1 x' hx _ st a w A φ hw h r) fun e a' w' ⟨s, A', φ', hq, h', r'⟩ => ?_)
        cases e with
        | normal => exact code_ok hm hG y b1 b2 y' hy Q s a' w' A' φ' hq h' r'
        | _ => exact ⟨s, A', φ', hq, h', r'⟩
      · simp at hs
    · simp at hs
  | .cond c x y, b, b', sc, hs, Q, st, a, w, A, φ, hw, h, r => by
    simp only [slimC] at hs
    split at hs
    · rename_i c' x' b1 hc hx
      split at hs
      · rename_i y' b2 hy
        simp only [Option.some.injEq, Prod.mk.injEq] at hs
        obtain ⟨rfl, rfl⟩ := hs
        simp only [SC.wp] at hw
        split at hw
        · rename_i t ht
          have ev := (ev_ok hG h r hc).1
          rw [ht] at ev
          refine wp_cond_split (ca_v ev).1 (fun ht => ?_) (fun ht => ?_)
          · exact code_ok hm hG x b b1 x' hx Q st a w A φ (hw.1 ht) h r
          · exact code_ok hm hG y b1 b2 y' hy Q st a w A φ (hw.2 ht) h r
        · exact hw.elim
      · simp at hs
    · simp at hs
  | .block id x, b, b', sc, hs, Q, st, a, w, A, φ, hw, h, r => by
    simp only [slimC] at hs
    split at hs
    · rename_i x' b1 hx
      simp only [Option.some.injEq, Prod.mk.injEq] at hs
      obtain ⟨rfl, rfl⟩ := hs
      simp only [SC.wp] at hw
      refine wp_block (wp_mono (code_ok hm hG x b b1 x' hx _ st a w A φ hw h r) fun e a' w' ⟨s, A', φ', hq, h', r'⟩ => ?_)
      cases e with
      | exit i =>
        simp only [Exit.inBlock]
        simp only at hq
        by_cases hi : i = id
        · rw [if_pos hi] at hq ⊢; exact ⟨s, A', φ', hq, h', r'⟩
        · rw [if_neg hi] at hq ⊢; exact ⟨s, A', φ', hq, h', r'⟩
      | _ => exact ⟨s, A', φ', hq, h', r'⟩
    · simp at hs
  | .loop x, b, b', sc, hs, Q, st, a, w, A, φ, hw, h, r => by
    simp only [slimC] at hs
    split at hs
    · rename_i x' b1 hx
      simp only [Option.some.injEq, Prod.mk.injEq] at hs
      obtain ⟨rfl, rfl⟩ := hs
      simp only [SC.wp] at hw
      obtain ⟨I, ⟨k, s, hsub, hI⟩, hround⟩ := hw
      obtain ⟨A0, φ0, h0, r0⟩ := hsub.ok h r
      refine wp_loop2 (fun k a w => ∃ s A φ, I k s ∧ RS E F s.sto w A φ ∧ RE s n a w A φ) ?_ (k := k) ⟨s, A0, φ0, hI, h0, r0⟩
      intro k a w ⟨s, A, φ, hI, h, r⟩
      refine wp_mono (code_ok hm hG x b b1 x' hx _ s a w A φ (hround k s hI) h r) fun e a' w' ⟨s', A', φ', hq, h', r'⟩ => ?_
      cases e with
      | normal =>
        obtain ⟨j, t, hj, hsub, hI⟩ := hq
        obtain ⟨A1, φ1, h1, r1⟩ := hsub.ok h' r'
        exact ⟨j, hj, t, A1, φ1, hI, h1, r1⟩
      | _ => exact ⟨s', A', φ', hq, h', r'⟩
    · simp at hs
  | .goto _, _, _, _, hs, _, _, _, _, _, _, hw, _, _ => by simp only [slimC, Option.some.injEq, Prod.mk.injEq] at hs; obtain ⟨rfl, rfl⟩ := hs; exact hw.elim
  | .label _, _, _, _, hs, _, _, _, _, _, _, hw, _, _ => by simp only [slimC, Option.some.injEq, Prod.mk.injEq] at hs; obtain ⟨rfl, rfl⟩ := hs; exact hw.elim
  | .scope _, _, _, _, hs, _, _, _, _, _, _, hw, _, _ => by simp only [slimC, Option.some.injEq, Prod.mk.injEq] at hs; obtain ⟨rfl, rfl⟩ := hs; exact hw.elim
  | .rangeFunc _ _ _ _, _, _, _, hs, _, _, _, _, _, _, hw, _, _ => by simp only [slimC, Option.some.injEq, Prod.mk.injEq] at hs; obtain ⟨rfl, rfl⟩ := hs; exact hw.elim
  | .refuse _, _, _, _, hs, _, _, _, _, _, _, hw, _, _ => by simp only [slimC, Option.some.injEq, Prod.mk.injEq] at hs; obtain ⟨rfl, rfl⟩ := hs; exact hw.elim

end
end Go.Sx

namespace Go.Sx

inductive RV where
  | tmp (t : Nat)
  | cell (a : Nat) (agg : Bool) (sz : Nat)
  deriving Inhabited

def slimRes (P : Program) : List ResultVar → Option (List RV)
  | [] => some []
  | .tmp t :: l => (slimRes P l).map fun r => .tmp t :: r
  | .cell a t :: l => match P.underlying t, sizeT P t, slimRes P l with
    | some d, some n, some r => some (.cell a (isAggD d) n :: r)
    | _, _, _ => none

def resA1 (st : St) : RV → Option AV
  | .tmp t => some (st.env t)
  | .cell a agg sz => (core 0 (.load agg sz (.tm a)) (·.ev st.env) st.sto).map (·.1)

def resA (st : St) : List RV → Option (List AV)
  | [] => some []
  | v :: l => match resA1 st v, resA st l with
    | some x, some xs => some (x :: xs)
    | _, _ => none

def packR : List AV → AV
  | [x] => x
  | l => .tp l

def oneE (x : AV) : Nat → AV := fun k => if k = 0 then x else .undef

/-- How a body has to end. -/
def SEnds (io : List Nat) (res : List RV) (r : AV) (outs : List (Nat × Ob)) : Exit → St → Prop := fun e st =>
  (match e with | .normal | .ret => True | _ => False) ∧ ∃ raws, resA st res = some raws ∧ Sub io ⟨oneE (packR raws), st.sto⟩ ⟨oneE r, stoOf outs⟩

/-- The slots as a call finds them. -/
def argE : Nat → List AV → Nat → AV
  | _, [] => fun _ => .undef
  | i, x :: l => fun k => if k = i then x else argE (i + 1) l k

section
variable {P : Program} {E : Env} {G : Nat → Option (List T)} {F : Frm}

theorem res_ok {st : St} {n : Nat} {a : Act} {w : World} {A : Nat → Prop} {φ : Nat → Nat} (h : RS E F st.sto w A φ) (r : RE st n a w A φ) : ∀ {l : List ResultVar} {rv : List RV} {xs : List AV}, slimRes P l = some rv → resA st rv = some xs →
    ∃ vs : List Value, (l.mapM (fun x => match x with
      | .tmp t => pure (a.tmps.getD t undef)
      | .cell p t => do loadVar t (← asAddr (a.tmps.getD p undef)) : ResultVar → Sem Value)).run P w = .ok vs w ∧ CAs A φ w xs vs ∧ ∀ i ∈ idsL xs, (st.sto i).isSome = true
  | [], rv, xs, h1, h2 => by
    simp only [slimRes, Option.some.injEq] at h1; subst h1
    simp only [resA, Option.some.injEq] at h2; subst h2
    exact ⟨[], by simp, by simp [CAs], by simp [idsL]⟩
  | .tmp t :: l, rv, xs, h1, h2 => by
    simp only [slimRes, Option.map_eq_some_iff] at h1
    obtain ⟨rv', h1, rfl⟩ := h1
    simp only [resA, resA1] at h2
    split at h2
    · rename_i x xs' hx hxs
      injection hx with hx; subst hx
      injection h2 with h2; subst h2
      obtain ⟨vs, g1, g2, g3⟩ := res_ok h r h1 hxs
      refine ⟨a.tmps.getD t undef :: vs, ?_, ?_, fun i hi => ?_⟩
      · simp only [List.mapM_cons, Sem.run_bind, Sem.run_pure, Result.andThen_ok]
        rw [g1]; rfl
      · simp only [CAs]; exact ⟨_, vs, rfl, r.val t, g2⟩
      · simp only [idsL, List.mem_append] at hi
        exact hi.elim (r.nod t i) (g3 i)
    · simp at h2
  | .cell p t :: l, rv, xs, h1, h2 => by
    simp only [slimRes] at h1
    split at h1
    · rename_i d m rv' hu hm hl
      injection h1 with h1; subst h1
      simp only [resA] at h2
      split at h2
      · rename_i x xs' hx hxs
        injection h2 with h2; subst h2
        simp only [resA1, Option.map_eq_some_iff] at hx
        obtain ⟨⟨x', wr⟩, hc, rfl⟩ := hx
        have hp := r.val p
        have hc' : core 0 (.load (isAggD d) m (.tm p)) (fun _ => st.env p) st.sto = some (x', wr) := by
          have := core_local (id := 0) (o := .load (isAggD d) m (.tm p)) (ρ := (·.ev st.env)) (ρ' := fun _ => st.env p) (sto := st.sto) (sto' := st.sto) (fun y hy => by simp [SOp.svs] at hy; rw [hy]; rfl) (fun _ _ => rfl)
          rw [this.1]; exact hc
        obtain ⟨_, v, hr, hca, hid⟩ := sim_load h hu hm hp hc'
        obtain ⟨vs, g1, g2, g3⟩ := res_ok h r hl hxs
        have hptr : ∃ ad, a.tmps.getD p undef = .pointer (some ad) := by
          simp only [core, SV.ev] at hc
          split at hc
          · rename_i hv; rw [hv] at hp; simp only [CA] at hp; exact ⟨_, hp⟩
          · rename_i hv; rw [hv] at hp; simp only [CA] at hp; exact ⟨_, hp⟩
          · rename_i hv; rw [hv] at hp; simp only [CA] at hp; obtain ⟨b, o, hp, _⟩ := hp; exact ⟨_, hp⟩
          · simp at hc
        obtain ⟨ad, had⟩ := hptr
        refine ⟨v :: vs, ?_, ?_, fun i hi => ?_⟩
        · rw [had] at hr
          simp only [Instr.loadAt, Instr.sureAddr, Sem.run_bind, Sem.run_pure, Result.andThen_ok] at hr
          have hasA : (asAddr (a.tmps.getD p undef)).run P w = .ok ad w := by rw [had]; rfl
          simp only [List.mapM_cons, Sem.run_bind, hasA, Sem.run_pure, Result.andThen_ok, hr]
          rw [g1]; rfl
        · simp only [CAs]; exact ⟨v, vs, rfl, hca, g2⟩
        · simp only [idsL, List.mem_append] at hi
          exact hi.elim (hid i) (g3 i)
      · simp at h2
    · simp at h1

theorem argE_get : ∀ (l : List AV) (i k : Nat), argE i l k = if i ≤ k then (l[k - i]?).getD .undef else .undef
  | [], i, k => by simp [argE]
  | x :: l, i, k => by
    simp only [argE]
    rw [argE_get l (i + 1) k]
    by_cases h1 : k = i
    · subst h1; simp
    · by_cases h2 : i ≤ k
      · rw [if_neg h1, if_pos (by omega), if_pos h2, show k - i = (k - (i + 1)) + 1 from by omega, List.getElem?_cons_succ]
      · rw [if_neg h1, if_neg (by omega), if_neg h2]

theorem meets_of (hm : P.follows .mixedOrders = true) (hG : GOK E G) {f : FuncId} {fn : Func} {c : Code} {n b' : Nat} {sc : SC} {vars : List Nat} {rv : List RV} (hf : P.funcs[f]? = some fn) (hb : fn.body = some c) (hname : (fn.name == "runtime.NumGoroutine") = false)
    (hsl : slimC P G n vars 100 c = some (sc, b')) (hn : fn.ntmps = n) (hres : slimRes P fn.results.toList = some rv) {args : List AV} {ins outs : List (Nat × Ob)} {r : AV} (hlen : args.length ≤ n)
    (h1 : Shut args ins) (h2 : Shut [r] outs) (h3 : ∀ i ∈ keysOf ins, i ∈ keysOf outs) (hio : ∀ i ∈ keysOf ins, i < 100)
    (hw : sc.wp P E (keysOf ins) (SEnds (keysOf ins) rv r outs) ⟨argE 0 args, stoOf ins⟩) : Meets P E f args ins r outs where
  shutIn := h1
  shutOut := h2
  stay := h3
  runs := fun A φ w vals gi gA alt hH hargs => by
    have hvl : vals.size = args.length := by have := hargs.length; simpa using this
    refine Or.inl ⟨?_, ?_⟩
    · simp only [callFunc, Sem.run_bind, run_program, Result.andThen_ok, hf, hname, Bool.false_eq_true, if_false, hb, Option.isNone_some, Sem.run_pure]
    · have hrs : RS E ⟨w, A, φ, keysOf ins⟩ (stoOf ins) w A φ := {
        nod := fun id o ho j hj => stoOf_some.2 (h1.objs id o ho j hj)
        obj := hH.obj
        liv := fun id o ho _ => ⟨(hH.own id o ho).1, (hH.own id o ho).2, Or.inl ⟨stoOf_some.1 (by rw [ho]; rfl), rfl⟩⟩
        inj := fun i j oi oj hi hj _ _ hij => hH.inj i j (stoOf_some.1 (by rw [hi]; rfl)) (stoOf_some.1 (by rw [hj]; rfl)) hij
        alt := alt
        gi := gi
        gA := gA
        os := rfl
        tape := rfl
        output := rfl
        drawn := Nat.le_refl _
        size := Nat.le_refl _
        old := fun _ _ _ => rfl
        asub := fun _ h => h
        anew := fun _ h => Or.inl h
        cap := fun _ _ h => h
        ioc := hio
        iok := fun _ _ _ _ _ => rfl }
      have hre : RE ⟨argE 0 args, stoOf ins⟩ n { tmps := vals ++ Array.replicate (fn.ntmps - vals.size) undef, defers := [] } w A φ := {
        size := by simp [hvl, hn]; omega
        defers := rfl
        val := fun k => by
          simp only [argE_get, Nat.zero_le, if_true, Nat.sub_zero]
          cases hx : args[k]? with
          | none => simp only [Option.getD_none, CA]
          | some x =>
            simp only [Option.getD_some]
            obtain ⟨y, hy, hc⟩ := hargs.get hx
            have hk := (List.getElem?_eq_some_iff.1 hx).1
            have : (vals ++ Array.replicate (fn.ntmps - vals.size) undef).getD k undef = y := by
              rw [Array.getD_eq_getD_getElem?, Array.getElem?_append_left (by omega)]
              simp only [Array.getElem?_toList] at hy
              rw [hy]; rfl
            rw [this]; exact hc
        nod := fun k i hi => by
          simp only [argE_get, Nat.zero_le, if_true, Nat.sub_zero] at hi
          cases hx : args[k]? with
          | none => rw [hx] at hi; simp [AV.ids] at hi
          | some x =>
            rw [hx] at hi
            exact stoOf_some.2 (h1.vals i (idsL_mem.2 ⟨x, List.mem_of_getElem? hx, hi⟩)) }
      refine calls_of_wp hf hb ?_
      have := code_ok (F := ⟨w, A, φ, keysOf ins⟩) hm hG c 100 b' sc hsl _ _ _ w A φ hw hrs hre
      refine wp_mono this fun e a w' ⟨st, A', φ', ⟨he, raws, hraw, hsub⟩, hrs', hre'⟩ => ?_
      have fin : a.defers = [] ∧ ∃ v, (results fn a.tmps).run P w' = .ok v w' ∧ ∃ v', Ending.returned v = .returned v' ∧ ∃ A' φ', Fin A φ w ins r outs v' w' A' φ' := by
        refine ⟨hre'.defers, ?_⟩
        obtain ⟨vs, g1, g2, g3⟩ := res_ok hrs' hre' hres hraw
        obtain ⟨π, sn, s1, s2, s3, s4, s5⟩ := hsub.ex
        have hro := SubO.ok hrs' s1 (fun i hi _ => ⟨s4 i hi, hio i hi⟩) (fun id o ho _ hin => s5 id (by have ho' : stoOf outs id = some o := ho; show (stoOf outs id).isSome = true; rw [ho']; rfl) hin)
        have hrun : (results fn a.tmps).run P w' = .ok (if h : vs.toArray.size = 1 then vs.toArray[0] else .tuple vs.toArray) w' := by
          unfold results
          rw [Array.mapM_eq_mapM_toList]
          simp only [Sem.run_bind, Sem.run_map, Sem.run_pure]
          refine (congrArg (fun q => Result.andThen (Result.andThen q _) _) g1).trans ?_
          rfl
        refine ⟨_, hrun, _, rfl, shown A' φ' sn, φ' ∘ π, ?_⟩
        have hca : CA A' φ' w' (packR raws) (if h : vs.toArray.size = 1 then vs.toArray[0] else .tuple vs.toArray) := by
          have hl := g2.length
          unfold packR
          split
          · rename_i x
            simp only [CAs] at g2
            obtain ⟨z, zs, rfl, hz, rfl⟩ := g2
            simpa using hz
          · rename_i hne
            have : ¬ vs.toArray.size = 1 := by
              simp only [List.size_toArray]
              intro h1
              rw [hl] at h1
              obtain ⟨x, hx⟩ := List.length_eq_one_iff.1 h1
              exact hne x hx
            rw [dif_neg this]
            simp only [CA]
            exact ⟨_, rfl, by simpa using g2⟩
        have hw0 := s2 0
        simp only [oneE, if_true] at hw0
        have hlive := h2.live
        exact {
          go := ⟨fun b hb => ⟨hro.asub b hb, hrs'.old b (alt b hb) (fun id hid he => by
              obtain ⟨o, ho⟩ := Option.isSome_iff_exists.1 (stoOf_some.2 hid)
              have he' : φ id = b := he
              exact (hH.own id o ho).1 (by rw [he']; exact hb))⟩, hrs'.cap⟩
          agree := fun id hid => by
            obtain ⟨o, ho⟩ := Option.isSome_iff_exists.1 (stoOf_some.2 (h3 id hid))
            exact hro.iok id o ho (hlive id o ho) hid
          holds := {
            obj := hro.obj
            own := fun id o ho => ⟨(hro.liv id o ho (hlive id o ho)).1, (hro.liv id o ho (hlive id o ho)).2.1⟩
            inj := fun i j hi hj hij => by
              obtain ⟨oi, hoi⟩ := Option.isSome_iff_exists.1 (stoOf_some.2 hi)
              obtain ⟨oj, hoj⟩ := Option.isSome_iff_exists.1 (stoOf_some.2 hj)
              exact hro.inj i j oi oj hoi hoj (hlive i oi hoi) (hlive j oj hoj) hij }
          fresh := fun id hid => by
            obtain ⟨o, ho⟩ := Option.isSome_iff_exists.1 (stoOf_some.2 hid)
            exact (hro.liv id o ho (hlive id o ho)).2.2.imp (fun h => h.1) (fun h => h)
          ca := wkV.ok hrs' _ _ _ hw0 hca
          anew := hro.anew
          alt := hro.alt
          old := fun b hb hne => hrs'.old b hb hne
          os := hrs'.os
          tape := hrs'.tape
          output := hrs'.output
          drawn := hrs'.drawn
          size := hrs'.size }
      cases e with
      | normal => exact fin
      | ret => exact fin
      | _ => exact he.elim

end
end Go.Sx
