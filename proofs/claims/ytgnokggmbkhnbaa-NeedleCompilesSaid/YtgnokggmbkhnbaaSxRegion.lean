/- One operation, and a region of them in whatever order. No statement of a seat is proved here. -/
import Derived.Test.YtgnokggmbkhnbaaSxSub
import Derived.Orders
set_option linter.unusedSimpArgs false
set_option linter.unusedVariables false
namespace Go.Sx

inductive SK where
  | op (o : SOp)
  | call (f : SV) (args : List SV)
  deriving Inhabited

/-- A slim operation with its slot, and its guard's slot. -/
structure SO where
  dst : Option Nat
  k : SK
  guard : Option (Nat × Bool)
  deriving Inhabited

def SK.svs : SK → List SV
  | .op o => o.svs
  | .call f as => f :: as

def SO.svs (o : SO) : List SV := (match o.guard with
  | some (t, _) => [.tm t]
  | none => []) ++ o.k.svs

/-- What a step has done: its answer, the objects that it looked at, those that it wrote. -/
structure Rc where
  x : AV
  rd : List Nat
  wr : List (Nat × Ob)

def putE (env : Nat → AV) : Option Nat → AV → (Nat → AV)
  | some d, x => upd env d x
  | none, _ => env

def St.app (st : St) (d : Option Nat) (rc : Rc) : St := ⟨putE st.env d rc.x, over rc.wr st.sto⟩

/-- Does the guard let it run? -/
def wantedA (g : Option (Nat × Bool)) (env : Nat → AV) : Option Bool :=
  match g with
  | none => some true
  | some (t, want) => match env t with
    | .t (.v (.bool b)) => some (b == want)
    | .tp [] => some false
    | _ => none

def CanK (P : Program) (E : Env) (id : Nat) (k : SK) (st : St) (rc : Rc) : Prop :=
  match k with
  | .op o => core id o (·.ev st.env) st.sto = some (rc.x, rc.wr) ∧ rc.rd = rds id o (·.ev st.env)
  | .call f as => ∃ g first caps, f.ev st.env = .fn g first caps ∧ ∃ ins outs sn keep ys, CallOk P E st.sto g (first ++ as.map (·.ev st.env) ++ caps) rc.x ins outs sn keep ys ∧
      rc.wr = outs ++ (if keep then [] else froze st.sto sn) ∧ rc.rd = idsL (first ++ as.map (·.ev st.env) ++ caps) ++ keysOf outs ++ sn

def Can (P : Program) (E : Env) (id : Nat) (o : SO) (st : St) (rc : Rc) : Prop :=
  match wantedA o.guard st.env with
  | some false => rc = ⟨.tp [], [], []⟩
  | some true => CanK P E id o.k st rc
  | none => False

theorem over_append (a b : List (Nat × Ob)) (sto : Nat → Option Ob) : over (a ++ b) sto = over a (over b sto) := by
  funext k
  induction a with
  | nil => simp [over, stoOf]
  | cons p a ih =>
    obtain ⟨i, o⟩ := p
    simp only [over, List.cons_append, stoOf] at ih ⊢
    by_cases hk : k = i
    · simp [hk]
    · simp only [if_neg hk]; exact ih

theorem over_other {l : List (Nat × Ob)} {sto : Nat → Option Ob} {k : Nat} (h : k ∉ keysOf l) : over l sto k = sto k := by
  unfold over
  cases hs : stoOf l k with
  | none => rfl
  | some o => exact absurd (stoOf_some.1 (by rw [hs]; rfl)) h

theorem over_comm {a b : List (Nat × Ob)} {sto : Nat → Option Ob} (h : ∀ i ∈ keysOf a, i ∉ keysOf b) : over a (over b sto) = over b (over a sto) := by
  funext k
  by_cases ha : k ∈ keysOf a
  · rw [over_other (h k ha)]
    simp only [over]
    obtain ⟨o, ho⟩ := Option.isSome_iff_exists.1 (stoOf_some.2 ha)
    simp [ho]
  · rw [over_other ha]
    simp only [over]
    cases stoOf b k with
    | some o => rfl
    | none =>
      have := over_other (sto := sto) ha
      simp only [over] at this
      simp [this]

theorem core_nodup {id : Nat} {o : SOp} {ρ : SV → AV} {sto : Nat → Option Ob} {x : AV} {wr : List (Nat × Ob)} (h : core id o ρ sto = some (x, wr)) : (keysOf wr).Nodup := by
  cases o with
  | app sz bytes s y =>
    simp only [core] at h
    split at h
    · split at h
      · split at h
        · rename_i hj
          split at h
          · rename_i hc
            simp only [Option.some.injEq, Prod.mk.injEq] at h
            obtain ⟨_, rfl⟩ := h
            obtain ⟨_, _, _, _, _, _, _, _, hn⟩ := hc
            simp only [keysOf, List.map_cons, List.map_nil, List.nodup_cons, List.mem_singleton, List.not_mem_nil, not_false_eq_true, List.nodup_nil, and_self, and_true]
            intro e; rw [e] at hj; rw [isFresh_none hn] at hj; simp at hj
          · simp at h
        · simp at h
      · split at h
        · simp only [Option.some.injEq, Prod.mk.injEq] at h
          obtain ⟨_, rfl⟩ := h
          simp [keysOf]
        · simp at h
    · simp at h
  | _ =>
    simp only [core] at h
    repeat' split at h
    all_goals first
      | (simp only [Option.some.injEq, Prod.mk.injEq] at h; obtain ⟨_, rfl⟩ := h; simp [keysOf])
      | (simp only [Option.map_eq_some_iff] at h; obtain ⟨_, _, h⟩ := h; injection h with _ h; subst h; simp [keysOf])
      | simp at h

/-- Slots and objects apart: the two may change places. -/
structure Apart (o : SO) (r : Rc) (o' : SO) (r' : Rc) : Prop where
  d1 : ∀ d, o.dst = some d → (∀ k, SV.tm k ∈ o'.svs → k ≠ d) ∧ o'.dst ≠ some d
  d2 : ∀ d, o'.dst = some d → ∀ k, SV.tm k ∈ o.svs → k ≠ d
  w1 : ∀ i ∈ keysOf r.wr, i ∉ r'.rd ∧ i ∉ keysOf r'.wr
  w2 : ∀ i ∈ keysOf r'.wr, i ∉ r.rd

section
variable {P : Program} {E : Env} {G : Nat → Option (List T)} {F : Frm}

theorem Wk.local {sto sto' : Nat → Option Ob} {sn : List Nat} {x y : AV} (hs : ∀ i ∈ x.ids, sto' i = sto i) (h : Wk sto sn x y) : Wk sto' sn x y := by
  unfold Wk at h ⊢
  split at h
  · rename_i id sz off len r sz' es
    have e := hs id (by simp [AV.ids])
    simp only [slTrees, AV.asOwn] at h ⊢
    rw [e]; exact h
  · exact h
  · exact h

theorem Wks.local {sto sto' : Nat → Option Ob} {sn : List Nat} {xs ys : List AV} (h : Wks sto sn xs ys) : (∀ i ∈ idsL xs, sto' i = sto i) → Wks sto' sn xs ys := by
  induction h with
  | nil => intro _; exact .nil
  | one h1 _ ih => intro hs; exact .one (h1.local fun i hi => hs i (by simp [idsL, hi])) (ih fun i hi => hs i (by simp [idsL, hi]))
  | ag _ _ ih1 ih2 => intro hs; exact .ag (ih1 fun i hi => hs i (by simp [idsL, AV.ids, hi])) (ih2 fun i hi => hs i (by simp [idsL, hi]))

theorem ev_local {env env' : Nat → AV} {x : SV} (h : ∀ k, x = .tm k → env' k = env k) : x.ev env' = x.ev env := by
  cases x with
  | tm k => exact h k rfl
  | c y => rfl

theorem Can.local {id : Nat} {o : SO} {st st' : St} {rc : Rc} (h : Can P E id o st rc) (he : ∀ k, SV.tm k ∈ o.svs → st'.env k = st.env k) (hs : ∀ i ∈ rc.rd, st'.sto i = st.sto i) : Can P E id o st' rc := by
  have hw : wantedA o.guard st'.env = wantedA o.guard st.env := by
    unfold wantedA
    split
    · rfl
    · rename_i t want hg
      rw [he t (by simp [SO.svs, hg])]
  have hev : ∀ x ∈ o.k.svs, x.ev st'.env = x.ev st.env := fun x hx => ev_local fun k hk => he k (by simp only [SO.svs, List.mem_append]; exact Or.inr (hk ▸ hx))
  unfold Can at h ⊢
  rw [hw]
  split at h
  · exact h
  · cases hk : o.k with
    | op so =>
      rw [hk] at h hev
      simp only [CanK] at h ⊢
      obtain ⟨h1, h2⟩ := h
      have := core_local (id := id) (o := so) (ρ := (·.ev st.env)) (ρ' := (·.ev st'.env)) (sto := st.sto) (sto' := st'.sto) (fun x hx => hev x hx) (fun i hi => hs i (by rw [h2]; exact hi))
      exact ⟨this.1.trans h1, h2.trans this.2.symm⟩
    | call f as =>
      rw [hk] at h hev
      simp only [CanK] at h ⊢
      obtain ⟨g, first, caps, h1, ins, outs, sn, keep, ys, hc, h2, h3⟩ := h
      have e1 : f.ev st'.env = f.ev st.env := hev f (by simp [SK.svs])
      have e2 : as.map (·.ev st'.env) = as.map (·.ev st.env) := List.map_congr_left fun x hx => hev x (by simp [SK.svs, hx])
      have hfz : froze st'.sto sn = froze st.sto sn := by
        have : ∀ i ∈ sn, st'.sto i = st.sto i := fun i hi => hs i (by rw [h3]; simp [hi])
        clear h2 h3 hc
        induction sn with
        | nil => rfl
        | cons i l ih => simp only [froze]; rw [this i (by simp), ih fun j hj => this j (by simp [hj])]
      rw [e2]
      refine ⟨g, first, caps, e1.trans h1, ins, outs, sn, keep, ys, ?_, by rw [hfz]; exact h2, h3⟩
      have hout : ∀ i ∈ keysOf outs, st'.sto i = st.sto i := fun i hi => hs i (by rw [h3]; simp [hi])
      exact { meets := hc.meets, wk := hc.wk.local fun i hi => hs i (by rw [h3]; exact List.mem_append.2 (Or.inl (List.mem_append.2 (Or.inl hi)))), insOk := fun i hi => (hout i (hc.meets.stay i hi)).trans (hc.insOk i hi)
              newOk := fun i hi => (hc.newOk i hi).imp (fun h => h) fun hn => ⟨(hout i hi).trans hn.1, hn.2⟩
              snOk := fun i hi => by
                obtain ⟨a1, a2, sz, es, a3⟩ := hc.snOk i hi
                exact ⟨a1, a2, sz, es, (hs i (by rw [h3]; simp [hi])).trans a3⟩
              keepOk := hc.keepOk, nd := hc.nd }
  · exact h.elim

/-- Two steps that are apart change places. -/
theorem swap {i j : Nat} {o o' : SO} {r r' : Rc} {st : St} (ha : Apart o r o' r') (h1 : Can P E i o st r) (h2 : Can P E j o' (st.app o.dst r) r') :
    Can P E j o' st r' ∧ Can P E i o (st.app o'.dst r') r ∧ (st.app o.dst r).app o'.dst r' = (st.app o'.dst r').app o.dst r := by
  have envs : ∀ (d : Option Nat) (x : AV) (env : Nat → AV) (k : Nat), (∀ q, d = some q → k ≠ q) → putE env d x k = env k := by
    intro d x env k h
    cases d with
    | none => rfl
    | some q => exact upd_ne _ _ (h q rfl)
  refine ⟨h2.local (fun k hk => ?_) (fun q hq => ?_), h1.local (fun k hk => ?_) (fun q hq => ?_), ?_⟩
  · exact (envs o.dst r.x st.env k fun d hd => (ha.d1 d hd).1 k hk).symm
  · refine (over_other fun hk => ?_).symm
    exact (ha.w1 q hk).1 hq
  · exact envs o'.dst r'.x st.env k fun d hd => ha.d2 d hd k hk
  · exact over_other fun hk => ha.w2 q hk hq
  · unfold St.app
    simp only
    congr 1
    · cases ho : o.dst with
      | none => simp [putE]
      | some d =>
        cases ho' : o'.dst with
        | none => simp [putE]
        | some d' =>
          have hne : d' ≠ d := fun e => (ha.d1 d ho).2 (by rw [ho', e])
          simp only [putE]
          funext k
          unfold upd
          by_cases hk : k = d
          · by_cases hk' : k = d'
            · exact absurd (hk'.symm.trans hk) hne
            · simp [hk, Ne.symm hne]
          · simp [hk]
    · exact (over_comm fun q hq hk => (ha.w1 q hk).2 hq)

/-- Steps one behind the other. -/
def Runs (P : Program) (E : Env) : List (Nat × SO × Rc) → St → St → Prop
  | [], st, st' => st' = st
  | (i, o, r) :: l, st, st' => Can P E i o st r ∧ Runs P E l (st.app o.dst r) st'

theorem front {i : Nat} {o : SO} {r : Rc} {b : List (Nat × SO × Rc)} : ∀ {a : List (Nat × SO × Rc)} {st st' : St}, (∀ p ∈ a, Apart p.2.1 p.2.2 o r) → Runs P E (a ++ (i, o, r) :: b) st st' → Runs P E ((i, o, r) :: (a ++ b)) st st'
  | [], st, st', _, h => h
  | (j, o', r') :: a, st, st', ha, h => by
    simp only [List.cons_append, Runs] at h ⊢
    have ih := front (a := a) (fun p hp => ha p (by simp [hp])) h.2
    simp only [Runs] at ih
    obtain ⟨s1, s2, s3⟩ := swap (ha (j, o', r') (by simp)) h.1 ih.1
    refine ⟨s1, s2, ?_⟩
    rw [← s3]; exact ih.2

/-- The machine does what a step says. -/
theorem can_sim (hG : GOK E G) {st : St} {n : Nat} {a : Act} {w : World} {A : Nat → Prop} {φ : Nat → Nat} (h : RS E F st.sto w A φ) (r : RE st n a w A φ) {ops : Array Oper} {Q : Exit → Act → World → Prop} {K : Act → World → Prop} {i id : Nat} {o : Oper} {so : SO} {rc : Rc}
    (ho : ops[i]? = some o) (hd : so.dst = o.dst) (hdn : ∀ d, o.dst = some d → d < n)
    (hg : so.guard = match o.guard with | none => none | some (j, want) => ((ops[j]?).bind (·.dst)).map fun t => (t, want))
    (hgj : ∀ j want, o.guard = some (j, want) → ((ops[j]?).bind (·.dst)).isSome = true)
    (hk : match so.k with
      | .op x => x = .bad ∨ slimOp P G o.op = some x
      | .call f as => ∃ xf xs ts, o.op = .call ⟨.value xf, xs, ts⟩ ∧ slimV G xf = some f ∧ slimVs G xs.toList = some as)
    (hc : Can P E id so st rc)
    (hK : ∀ a' w' A' φ', RS E F (st.app so.dst rc).sto w' A' φ' → RE (st.app so.dst rc) n a' w' A' φ' → K a' w') : wpOp P ops Q i K a w := by
  have hput : ∀ {v : Value} {w' : World} {A' : Nat → Prop} {φ' : Nat → Nat}, Did E F st.sto A φ w rc.x v (over rc.wr st.sto) w' A' φ' → K (a.put o.dst v) w' := by
    intro v w' A' φ' d
    refine hK _ _ A' φ' d.rs ?_
    unfold St.app
    rw [hd]
    cases hdst : o.dst with
    | none => exact r.put_none d.go d.ph d.mo
    | some q => exact r.put (hdn q hdst) d.go d.ph d.mo d.ca d.nd
  have hskip : rc = ⟨.tp [], [], []⟩ → K (a.put o.dst undef) w := by
    intro e
    refine hput (v := undef) (w' := w) (A' := A) (φ' := φ) ?_
    rw [e]
    exact Did.same h (by simp [CA, CAs, undef]) (by simp [AV.ids, idsL])
  -- what the guard says
  have hw : wantedA so.guard st.env = some (Region.wanted o (yielded ops a.tmps)) ∨ wantedA so.guard st.env = none := by
    rw [hg]
    cases hgo : o.guard with
    | none => simp [wantedA, Region.wanted, hgo]
    | some p =>
      obtain ⟨j, want⟩ := p
      obtain ⟨t, ht⟩ := Option.isSome_iff_exists.1 (hgj j want hgo)
      simp only [ht, Option.map_some, wantedA]
      split
      · rename_i b hb
        left
        have hv := r.val t
        rw [hb] at hv
        have hv := (ca_v hv).1
        have hget : a.tmps[t]? = some (.bool b) := by
          rw [Array.getD_eq_getD_getElem?] at hv
          cases hq : a.tmps[t]? with
          | none => rw [hq] at hv; simp [undef] at hv
          | some u => rw [hq] at hv; simp at hv; rw [hv]
        simp [Region.wanted, hgo, yielded, ht, hget]
      · rename_i hb
        left
        have hv := r.val t
        rw [hb] at hv
        simp only [CA, CAs] at hv
        obtain ⟨ys, hv, hy⟩ := hv
        rw [Array.getD_eq_getD_getElem?] at hv
        cases hq : a.tmps[t]? with
        | none => simp [Region.wanted, hgo, yielded, ht, hq]
        | some u => rw [hq] at hv; simp at hv; simp [Region.wanted, hgo, yielded, ht, hq, hv]
      · exact Or.inr rfl
  unfold wpOp
  simp only [ho]
  unfold Can at hc
  rcases hw with hw | hw
  case inr => rw [hw] at hc; exact hc.elim
  rw [hw] at hc
  cases hb : Region.wanted o (yielded ops a.tmps) with
  | false =>
    rw [hb] at hc
    simp only [Bool.false_eq_true, if_false]
    exact hskip hc
  | true =>
    rw [hb] at hc
    simp only at hc
    simp only [if_true]
    left
    cases hkk : so.k with
    | op x =>
      rw [hkk] at hc hk
      simp only [CanK] at hc hk
      have hran := sim_op hG h r (hk.resolve_left fun e => by rw [e] at hc; simp [core] at hc) hc.1
      obtain ⟨nx, v, w', A', φ', hrun, hnx, hdid⟩ := hran
      rw [applyWr_over (core_nodup hc.1)] at hdid
      unfold Oper.wp
      rw [hrun]
      rcases hnx with rfl | ⟨rfl, rfl⟩
      · exact hput hdid
      · exact hput hdid
    | call f as =>
      rw [hkk] at hc hk
      simp only [CanK] at hc
      obtain ⟨xf, xs, ts, hop, hf, has⟩ := hk
      obtain ⟨g, first, caps, hfe, ins, outs, sn, keep, ys, hcall, hwr, hrd⟩ := hc
      have ef := (ev_ok hG h r hf).1
      rw [hfe] at ef
      simp only [CA] at ef
      obtain ⟨us, vs, hfv, hfirst, hcaps⟩ := ef
      have eas := (evs_ok hG h r has).1
      have hargs : CAs A φ w (first ++ as.map (·.ev st.env) ++ caps) (us ++ xs.map a.eval ++ vs).toList := by
        simp only [Array.toList_append, Array.toList_map]
        exact (hfirst.append eas).append hcaps
      have hruns := call_ok h hcall hargs
      have hexec : (execOp a.eval o).run P w = (callFunc g (us ++ xs.map a.eval ++ vs)).run P w := by
        simp only [execOp, hop, resolve, Sem.run_bind, Sem.run_pure, Result.andThen_ok, hfv, Deferred.ofValue, invoke]
      have haft : after st.sto outs sn keep = over rc.wr st.sto := by
        rw [hwr, over_append]
        have e0 : over [] st.sto = st.sto := by funext k; simp [over, stoOf]
        unfold after
        cases keep with
        | false => rfl
        | true => simp only [if_true, e0]
      unfold Oper.wp
      rw [hexec]
      rcases hruns with ⟨h1, h2⟩ | ⟨v, w', h1, A', φ', hdid⟩
      · rw [h1]
        refine Calls.mono h2 fun e w' ⟨v, he, A', φ', hdid⟩ => ?_
        subst he
        rw [haft] at hdid
        exact hput hdid
      · rw [h1]
        rw [haft] at hdid
        exact hput hdid

end
end Go.Sx
