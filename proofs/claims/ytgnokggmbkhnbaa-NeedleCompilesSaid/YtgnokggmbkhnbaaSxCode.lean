/- Code, and how a function's contract comes of it. No statement of a seat is proved here. -/
import Derived.Test.YtgnokggmbkhnbaaSxDraw
set_option linter.unusedSimpArgs false
set_option linter.unusedVariables false
namespace Go.Sx

/-- Slim code. 'vars': the slots that are met behind a region. -/
inductive SC where
  | skip
  | ret
  | reg (base : Nat) (ops : List SO) (draw : Bool) (prs : List (Nat × Nat)) (vars : List Nat)
  | seq (a b : SC)
  | cond (c : SV) (a b : SC)
  | block (id : Nat) (a : SC)
  | loop (a : SC)
  | exit (id : Nat)
  | bad
  deriving Inhabited

def envOf : List (Nat × AV) → Nat → AV
  | [], _ => .undef
  | (i, x) :: l, k => if k = i then x else envOf l k

/-- Only some slots. -/
def keepE (vars : List Nat) (env : Nat → AV) : Nat → AV := envOf (vars.map fun k => (k, env k))

def slimC (P : Program) (G : Nat → Option (List T)) (n : Nat) (vars : List Nat) : Nat → Code → Option (SC × Nat)
  | b, .skip => some (.skip, b)
  | b, .ret => some (.ret, b)
  | b, .exit id => some (.exit id, b)
  | b, .region _ ops draw => match slimReg P G n ops draw with
    | some (l, prs) => some (.reg b l draw prs vars, b + l.length)
    | none => none
  | b, .seq x y => match slimC P G n vars b x with
    | some (x', b') => match slimC P G n vars b' y with
      | some (y', b'') => some (.seq x' y', b'')
      | none => none
    | none => none
  | b, .cond c x y => match slimV G c, slimC P G n vars b x with
    | some c', some (x', b') => match slimC P G n vars b' y with
      | some (y', b'') => some (.cond c' x' y', b'')
      | none => none
    | _, _ => none
  | b, .block id x => match slimC P G n vars b x with
    | some (x', b') => some (.block id x', b')
    | none => none
  | b, .loop x => match slimC P G n vars b x with
    | some (x', b') => some (.loop x', b')
    | none => none
  | b, _ => some (.bad, b)

section
variable (P : Program) (E : Env) (io : List Nat)

/-- What a call in a region asks, and what then holds. -/
def callW (st : St) (f : SV) (as : List SV) (K : Rc → Prop) : Prop :=
  ∃ g first caps, f.ev st.env = .fn g first caps ∧ ∃ r ins outs sn keep ys, CallOk P E st.sto g (first ++ as.map (·.ev st.env) ++ caps) r ins outs sn keep ys ∧
    K ⟨r, idsL (first ++ as.map (·.ev st.env) ++ caps) ++ keysOf outs ++ sn, outs ++ (if keep then [] else froze st.sto sn)⟩

def opW (id : Nat) (k : SK) (st : St) (K : Rc → Prop) : Prop :=
  match k with
  | .op o => match core id o (·.ev st.env) st.sto with
    | some (x, wr) => K ⟨x, rds id o (·.ev st.env), wr⟩
    | none => False
  | .call f as => callW P E st f as K

def opsW (draw : Bool) : Nat → List SO → List Rc → St → (List Rc → St → Prop) → Prop
  | _, [], acc, st, K => K acc st
  | id, o :: l, acc, st, K =>
    match wantedA o.guard st.env with
    | some false => opsW draw (id + 1) l (if draw then acc ++ [⟨.tp [], [], []⟩] else acc) (st.app o.dst ⟨.tp [], [], []⟩) K
    | some true => opW P E id o.k st fun rc => opsW draw (id + 1) l (if draw then acc ++ [rc] else acc) (st.app o.dst rc) K
    | none => False

def okPairs (prs : List (Nat × Nat)) (acc : List Rc) : Prop := ∀ p ∈ prs, ∃ a b, acc[p.1]? = some a ∧ acc[p.2]? = some b ∧ apartR a b = true

/-- The weakest state from which code comes to Q. -/
def SC.wp : SC → (Exit → St → Prop) → St → Prop
  | .bad, _, _ => False
  | .skip, Q, st => Q .normal st
  | .ret, Q, st => Q .ret st
  | .exit id, Q, st => Q (.exit id) st
  | .reg base ops draw prs vars, Q, st => opsW P E draw base ops [] st fun acc st' => okPairs prs acc ∧ Q .normal ⟨keepE vars st'.env, st'.sto⟩
  | .seq a b, Q, st => a.wp (fun e s => match e with | .normal => b.wp Q s | e => Q e s) st
  | .cond c a b, Q, st => match c.ev st.env with
    | .t (.v (.bool t)) => (t = true → a.wp Q st) ∧ (t = false → b.wp Q st)
    | _ => False
  | .block id a, Q, st => a.wp (fun e s => match e with | .exit i => if i = id then Q .normal s else Q (.exit i) s | e => Q e s) st
  | .loop a, Q, st => ∃ (I : Nat → St → Prop), (∃ k s, Sub io st s ∧ I k s) ∧ ∀ k s, I k s → a.wp (fun e s' => match e with | .normal => ∃ j t, j < k ∧ Sub io s' t ∧ I j t | e => Q e s') s
end

section
variable {P : Program} {E : Env} {G : Nat → Option (List T)} {F : Frm}

theorem opsW_runs {draw : Bool} : ∀ {l : List SO} {id : Nat} {acc : List Rc} {st : St} {K : List Rc → St → Prop}, opsW P E draw id l acc st K → ∃ rs st', rs.length = l.length ∧ Runs P E (steps id l rs) st st' ∧ K (if draw then acc ++ rs else acc) st'
  | [], id, acc, st, K, h => ⟨[], st, rfl, by simp [steps, Runs], by simpa [opsW] using h⟩
  | o :: l, id, acc, st, K, h => by
    have next : ∀ rc, Can P E id o st rc → opsW P E draw (id + 1) l (if draw then acc ++ [rc] else acc) (st.app o.dst rc) K → ∃ rs st', rs.length = (o :: l).length ∧ Runs P E (steps id (o :: l) rs) st st' ∧ K (if draw then acc ++ rs else acc) st' := by
      intro rc hc hr
      obtain ⟨rs, st', h1, h2, h3⟩ := opsW_runs hr
      refine ⟨rc :: rs, st', by simp [h1], by simp only [steps, Runs]; exact ⟨hc, h2⟩, ?_⟩
      cases draw with
      | false => simpa using h3
      | true => simpa using h3
    simp only [opsW] at h
    split at h
    · rename_i hw
      exact next _ (by unfold Can; rw [hw]) h
    · rename_i hw
      unfold opW at h
      split at h
      · rename_i so hk
        split at h
        · rename_i x wr hc
          exact next ⟨x, rds id so (·.ev st.env), wr⟩ (by unfold Can; rw [hw]; simp only [CanK, hk]; exact ⟨hc, trivial⟩) h
        · exact h.elim
      · rename_i f as hk
        obtain ⟨g, first, caps, h1, r, ins, outs, sn, keep, ys, h2, h3⟩ := h
        exact next _ (by unfold Can; rw [hw]; simp only [CanK, hk]; exact ⟨g, first, caps, h1, ins, outs, sn, keep, ys, h2, rfl, rfl⟩) h3
    · exact h.elim

theorem envOf_keep (vars : List Nat) (env : Nat → AV) (k : Nat) : keepE vars env k = env k ∨ keepE vars env k = .undef := by
  unfold keepE
  induction vars with
  | nil => exact Or.inr rfl
  | cons i l ih =>
    simp only [List.map_cons, envOf]
    split
    · rename_i h; subst h; exact Or.inl rfl
    · exact ih

theorem RE.keep {st : St} {n : Nat} {a : Act} {w : World} {A : Nat → Prop} {φ : Nat → Nat} (r : RE st n a w A φ) (vars : List Nat) : RE ⟨keepE vars st.env, st.sto⟩ n a w A φ where
  size := r.size
  defers := r.defers
  val := fun k => by
    rcases envOf_keep vars st.env k with h | h
    · simp only [h]; exact r.val k
    · simp only [h, CA]
  nod := fun k id hid => by
    rcases envOf_keep vars st.env k with h | h
    · simp only [h] at hid; exact r.nod k id hid
    · simp only [h] at hid; simp [AV.ids] at hid

theorem wp_loop2 {c : Code} {Q : Exit → Act → World → Prop} (I : Nat → Act → World → Prop) (round : ∀ k a w, I k a w → c.wp P (Exit.then (fun a' w' => ∃ j, j < k ∧ I j a' w') Q) a w) {k : Nat} {a : Act} {w : World} (h : I k a w) : (Code.loop c).wp P Q a w := by
  intro b ks cs
  have key : ∀ n a w, I n a w → ∃ e a' w', Q e a' w' ∧ Arrives P (lone (b.at a (.code c :: .inLoop c :: ks)) cs w) b ks cs e a' w' := by
    intro n
    induction n using Nat.strongRecOn with
    | _ n ih =>
      intro a w hI
      obtain ⟨e, a₁, w₁, hq, harr⟩ := round n a w hI b (.inLoop c :: ks) cs
      cases e with
      | normal =>
        obtain ⟨j, hlt, hI₁⟩ := hq
        obtain ⟨e₂, a₂, w₂, hq₂, harr₂⟩ := ih j hlt a₁ w₁ hI₁
        exact ⟨e₂, a₂, w₂, hq₂, .of_steps (Steps.trans harr (.one step_inLoop)) harr₂⟩
      | exit id => exact ⟨_, a₁, w₁, hq, .pass (x := .inLoop c) rfl (fun _ _ => .inl (by simp)) harr⟩
      | goto l => exact ⟨_, a₁, w₁, hq, .pass (x := .inLoop c) rfl (fun _ _ => .inl (by simp)) harr⟩
      | ret => exact ⟨_, a₁, w₁, hq, .pass (x := .inLoop c) rfl (fun _ _ => .inl (by simp)) harr⟩
      | panic ch => exact ⟨_, a₁, w₁, hq, .pass (x := .inLoop c) rfl (fun _ _ => .inl (by simp)) harr⟩
      | outgrown => exact ⟨_, a₁, w₁, hq, .pass (x := .inLoop c) rfl (fun _ _ => .inl (by simp)) harr⟩
  obtain ⟨e, a', w', hq, harr⟩ := key _ a w h
  exact ⟨e, a', w', hq, .of_steps (.one step_loop) harr⟩

/-- An abstract end, said of the machine. -/
def Lift (E : Env) (F : Frm) (n : Nat) (Q : Exit → St → Prop) : Exit → Act → World → Prop := fun e a w => ∃ st A φ, Q e st ∧ RS E F st.sto w A φ ∧ RE st n a w A φ

theorem code_ok (hm : P.follows .mixedOrders = true) (hG : GOK E G) {n : Nat} {vars : List Nat} : ∀ (c : Code) (b b' : Nat) (sc : SC), slimC P G n vars b c = some (sc, b') → ∀ (Q : Exit → St → Prop) (st : St) (a : Act) (w : World) (A : Nat → Prop) (φ : Nat → Nat),
    sc.wp P E F.io Q st → RS E F st.sto w A φ → RE st n a w A φ → c.wp P (Lift E F n Q) a w
  | .skip, b, b', sc, hs, Q, st, a, w, A, φ, hw, h, r => by
    simp only [slimC, Option.some.injEq, Prod.mk.injEq] at hs
    obtain ⟨rfl, rfl⟩ := hs
    exact wp_skip ⟨st, A, φ, hw, h, r⟩
  | .ret, b, b', sc, hs, Q, st, a, w, A, φ, hw, h, r => by
    simp only [slimC, Option.some.injEq, Prod.mk.injEq] at hs
    obtain ⟨rfl, rfl⟩ := hs
    exact wp_ret ⟨st, A, φ, hw, h, r⟩
  | .exit id, b, b', sc, hs, Q, st, a, w, A, φ, hw, h, r => by
    simp only [slimC, Option.some.injEq, Prod.mk.injEq] at hs
    obtain ⟨rfl, rfl⟩ := hs
    exact wp_exit ⟨st, A, φ, hw, h, r⟩
  | .region id ops draw, b, b', sc, hs, Q, st, a, w, A, φ, hw, h, r => by
    simp only [slimC] at hs
    split at hs
    · rename_i l prs hsl
      simp only [Option.some.injEq, Prod.mk.injEq] at hs
      obtain ⟨rfl, rfl⟩ := hs
      simp only [SC.wp] at hw
      obtain ⟨rs, st', h1, h2, h3, h4⟩ := opsW_runs hw
      refine region_ok hm hG hsl (base := b) (fun a' w' A' φ' h' r' => ⟨_, A', φ', h4, h', r'.keep vars⟩) h1 h2 (fun p hp => ?_) h r
      cases draw with
      | false =>
        unfold slimReg at hsl
        split at hsl
        · simp at hsl; rw [hsl.2] at hp; simp at hp
        · simp at hsl
      | true => simpa using h3 p hp
    · simp at hs
  | .seq x y, b, b', sc, hs, Q, st, a, w, A, φ, hw, h, r => by
    simp only [slimC] at hs
    split at hs
    · rename_i x' b1 hx
      split at hs
      · rename_i y' b2 hy
        simp only [Option.some.injEq, Prod.mk.injEq] at hs
        obtain ⟨rfl, rfl⟩ := hs
        simp only [SC.wp] at hw
        refine wp_seq (wp_mono (code_ok hm hG x b b1 x' hx _ st a w A φ hw h r) fun e a' w' ⟨s, A', φ', hq, h', r'⟩ => ?_)
        cases e with
        | normal => exact code_ok hm hG y b1 b2 y' hy Q s a' w' A' φ' hq h' r'
        | _ => exact ⟨s, A', φ', hq, h', r'⟩
      · simp at hs
    · simp at hs
  | .cond c x y, b, b', sc, hs, Q, st, a, w, A, φ, hw, h, r => by
    simp only [slimC] at hs
    split at hs
    · rename_i c' x' b1 hc hx
      split at hs
      · rename_i y' b2 hy
        simp only [Option.some.injEq, Prod.mk.injEq] at hs
        obtain ⟨rfl, rfl⟩ := hs
        simp only [SC.wp] at hw
        split at hw
        · rename_i t ht
          have ev := (ev_ok hG h r hc).1
          rw [ht] at ev
          refine wp_cond_split (ca_v ev).1 (fun ht => ?_) (fun ht => ?_)
          · exact code_ok hm hG x b b1 x' hx Q st a w A φ (hw.1 ht) h r
          · exact code_ok hm hG y b1 b2 y' hy Q st a w A φ (hw.2 ht) h r
        · exact hw.elim
      · simp at hs
    · simp at hs
  | .block id x, b, b', sc, hs, Q, st, a, w, A, φ, hw, h, r => by
    simp only [slimC] at hs
    split at hs
    · rename_i x' b1 hx
      simp only [Option.some.injEq, Prod.mk.injEq] at hs
      obtain ⟨rfl, rfl⟩ := hs
      simp only [SC.wp] at hw
      refine wp_block (wp_mono (code_ok hm hG x b b1 x' hx _ st a w A φ hw h r) fun e a' w' ⟨s, A', φ', hq, h', r'⟩ => ?_)
      cases e with
      | exit i =>
        simp only [Exit.inBlock]
        simp only at hq
        by_cases hi : i = id
        · rw [if_pos hi] at hq ⊢; exact ⟨s, A', φ', hq, h', r'⟩
        · rw [if_neg hi] at hq ⊢; exact ⟨s, A', φ', hq, h', r'⟩
      | _ => exact ⟨s, A', φ', hq, h', r'⟩
    · simp at hs
  | .loop x, b, b', sc, hs, Q, st, a, w, A, φ, hw, h, r => by
    simp only [slimC] at hs
    split at hs
    · rename_i x' b1 hx
      simp only [Option.some.injEq, Prod.mk.injEq] at hs
      obtain ⟨rfl, rfl⟩ := hs
      simp only [SC.wp] at hw
      obtain ⟨I, ⟨k, s, hsub, hI⟩, hround⟩ := hw
      obtain ⟨A0, φ0, h0, r0⟩ := hsub.ok h r
      refine wp_loop2 (fun k a w => ∃ s A φ, I k s ∧ RS E F s.sto w A φ ∧ RE s n a w A φ) ?_ (k := k) ⟨s, A0, φ0, hI, h0, r0⟩
      intro k a w ⟨s, A, φ, hI, h, r⟩
      refine wp_mono (code_ok hm hG x b b1 x' hx _ s a w A φ (hround k s hI) h r) fun e a' w' ⟨s', A', φ', hq, h', r'⟩ => ?_
      cases e with
      | normal =>
        obtain ⟨j, t, hj, hsub, hI⟩ := hq
        obtain ⟨A1, φ1, h1, r1⟩ := hsub.ok h' r'
        exact ⟨j, hj, t, A1, φ1, hI, h1, r1⟩
      | _ => exact ⟨s', A', φ', hq, h', r'⟩
    · simp at hs
  | .goto _, _, _, _, hs, _, _, _, _, _, _, hw, _, _ => by simp only [slimC, Option.some.injEq, Prod.mk.injEq] at hs; obtain ⟨rfl, rfl⟩ := hs; exact hw.elim
  | .label _, _, _, _, hs, _, _, _, _, _, _, hw, _, _ => by simp only [slimC, Option.some.injEq, Prod.mk.injEq] at hs; obtain ⟨rfl, rfl⟩ := hs; exact hw.elim
  | .scope _, _, _, _, hs, _, _, _, _, _, _, hw, _, _ => by simp only [slimC, Option.some.injEq, Prod.mk.injEq] at hs; obtain ⟨rfl, rfl⟩ := hs; exact hw.elim
  | .rangeFunc _ _ _ _, _, _, _, hs, _, _, _, _, _, _, hw, _, _ => by simp only [slimC, Option.some.injEq, Prod.mk.injEq] at hs; obtain ⟨rfl, rfl⟩ := hs; exact hw.elim
  | .refuse _, _, _, _, hs, _, _, _, _, _, _, hw, _, _ => by simp only [slimC, Option.some.injEq, Prod.mk.injEq] at hs; obtain ⟨rfl, rfl⟩ := hs; exact hw.elim

end
end Go.Sx
