/- Blocks that are no cells, values that stay: what a range over a function keeps beside the objects. No statement of a seat is proved here. -/
import Derived.Test.YtgmpceijcdimkaaGreatDoorSxD
import Derived.RangeFuncNested
import Derived.RangeFuncIn
set_option linter.unusedSimpArgs false
set_option linter.unusedVariables false
namespace Go.Sx

def B22 (o : Obj) : Prop := ∀ c e f, o ≠ .cells c e f

section
variable {E : Env} {F : Frm} {sto : Nat → Option Ob} {w : World} {A : Nat → Prop} {φ : Nat → Nat} {ds : List Deferred}

theorem RS.frame (h : RS E F sto w A φ) (K : List (Nat × Obj)) (V : List (AV × Value)) (hK : ∀ p ∈ K, F.w.heap.size ≤ p.1 ∧ w.heap[p.1]? = some p.2 ∧ B22 p.2 ∧ ¬ A p.1) (hV : ∀ p ∈ V, CA A φ w p.1 p.2 ∧ ∀ i ∈ p.1.ids, (sto i).isSome = true) :
  RS E ⟨F.w, F.A, F.φ, F.io, K, V⟩ sto w A φ where
 nod := h.nod
 obj := h.obj
 liv := h.liv
 inj := h.inj
 alt := h.alt
 gi := h.gi
 gA := h.gA
 os := h.os
 tape := h.tape
 output := h.output
 drawn := h.drawn
 kept := hK
 vals := hV
 size := h.size
 old := h.old
 asub := h.asub
 anew := h.anew
 cap := h.cap
 ioc := h.ioc
 iok := h.iok

theorem RS.live_cells (h : RS E F sto w A φ) {id : Nat} {o : Ob} (ho : sto id = some o) (hl : o.live = true) : ∃ ys e, w.heap[φ id]? = some (.cells ys e (0, 0)) := by
 exact CO.cells hl (h.obj id o ho)

theorem C5p {l : Nat} {o o' : Obj} (hl : w.heap[l]? = some o) (ho : B22 o) (hA : ¬ A l) : Goes A A w (w.putObj l o') :=
 ⟨fun b hb => ⟨hb, World.putObj_heap_other (fun e => hA (e ▸ hb))⟩, fun b n hb => by
  obtain ⟨cs, e, h1, h2⟩ := hb
  refine A3i.of_heap (World.putObj_heap_other (fun e' => ?_)) ⟨cs, e, h1, h2⟩
  rw [e', hl] at h1; injection h1 with h1; exact ho _ _ _ h1⟩

/-- A block that is no cells is turned. -/
theorem RS.put (h : RS E F sto w A φ) {l : Nat} {o o' : Obj} (hl : w.heap[l]? = some o) (ho : B22 o) (hA : ¬ A l) (hF : F.w.heap.size ≤ l) (K : List (Nat × Obj)) (hK : ∀ p ∈ K, (p ∈ F.K ∧ p.1 ≠ l) ∨ (p = (l, o') ∧ B22 o')) :
  RS E ⟨F.w, F.A, F.φ, F.io, K, F.V⟩ sto (w.putObj l o') A φ := by
 have hg : Goes A A w (w.putObj l o') := C5p hl ho hA
 have hsz : (w.putObj l o').heap.size = w.heap.size := by simp [World.putObj]
 exact {
  nod := h.nod
  obj := fun id ob hi => CO.goes hg ob (fun _ _ => rfl) (fun hlv => by
   obtain ⟨ys, e, hb⟩ := h.live_cells hi hlv
   exact World.putObj_heap_other (fun e' => by rw [e', hl] at hb; injection hb with hb; exact ho _ _ _ hb)) (h.obj id ob hi)
  liv := fun id ob hi hlv => by rw [hsz]; exact h.liv id ob hi hlv
  inj := h.inj
  alt := fun b hb => by rw [hsz]; exact h.alt b hb
  gi := E.stable w _ (fun b hb => (hg.keeps b (h.gA b hb)).2) h.gi
  gA := h.gA
  os := h.os
  tape := h.tape
  output := h.output
  drawn := h.drawn
  kept := fun p hp => by
   rcases hK p hp with ⟨h1, h2⟩ | ⟨rfl, h2⟩
   ·obtain ⟨k1, k2, k3, k4⟩ := h.kept p h1
    exact ⟨k1, (World.putObj_heap_other h2).trans k2, k3, k4⟩
   ·exact ⟨hF, World.putObj_heap_same (A88 hl), h2, hA⟩
  vals := fun p hp => ⟨CA.goes hg _ _ (fun _ _ => rfl) (h.vals p hp).1, (h.vals p hp).2⟩
  size := by rw [hsz]; exact h.size
  old := fun b hb hne => by
   have hb' : b < F.w.heap.size := hb
   exact (World.putObj_heap_other (by omega)).trans (h.old b hb hne)
  asub := h.asub
  anew := h.anew
  cap := fun b n hb => hg.cap b n (h.cap b n hb)
  ioc := h.ioc
  iok := h.iok }

/-- A block that is no cells is laid. -/
theorem RS.lay (h : RS E F sto w A φ) (o : Obj) (ho : B22 o) : RS E ⟨F.w, F.A, F.φ, F.io, (w.heap.size, o) :: F.K, F.V⟩ sto (w.alloc o) A φ := by
 have hg : Goes A A w (w.alloc o) := A47 h.alt o
 have hsz : (w.alloc o).heap.size = w.heap.size + 1 := by simp
 exact {
  nod := h.nod
  obj := fun id ob hi => CO.goes hg ob (fun _ _ => rfl) (fun hlv => hao w _ _ (h.liv id ob hi hlv).2.1) (h.obj id ob hi)
  liv := fun id ob hi hlv => by have := h.liv id ob hi hlv; exact ⟨this.1, by omega, this.2.2⟩
  inj := h.inj
  alt := fun b hb => by have := h.alt b hb; omega
  gi := E.stable w _ (fun b hb => (hg.keeps b (h.gA b hb)).2) h.gi
  gA := h.gA
  os := h.os
  tape := h.tape
  output := h.output
  drawn := h.drawn
  kept := fun p hp => by
   rcases List.mem_cons.1 hp with rfl | hp
   ·refine ⟨h.size, ?_, ho, fun ha => Nat.lt_irrefl _ (h.alt _ ha)⟩
    show (w.heap.push o)[w.heap.size]? = some o
    simp
   ·obtain ⟨k1, k2, k3, k4⟩ := h.kept p hp
    exact ⟨k1, (hao w _ _ (A88 k2)).trans k2, k3, k4⟩
  vals := fun p hp => ⟨CA.goes hg _ _ (fun _ _ => rfl) (h.vals p hp).1, (h.vals p hp).2⟩
  size := by
   have hs : F.w.heap.size ≤ w.heap.size := h.size
   show F.w.heap.size ≤ _
   omega
  old := fun b hb hne => (hao w _ _ (Nat.lt_of_lt_of_le hb h.size)).trans (h.old b hb hne)
  asub := h.asub
  anew := h.anew
  cap := fun b n hb => hg.cap b n (h.cap b n hb)
  ioc := h.ioc
  iok := h.iok }

theorem RE.goes {st : St} {n : Nat} {a : Act} {w' : World} (r : RE ds st n a w A φ) (hg : Goes A A w w') : RE ds st n a w' A φ where
 size := r.size
 defers := r.defers
 val := fun k => CA.goes hg _ _ (fun _ _ => rfl) (r.val k)
 nod := r.nod

/-- A variable's one cell. -/
theorem RS.cell1 (h : RS E F sto w A φ) {id : Nat} {v : Value} (hs : sto id = some (.box [.t (.v v)])) : (∃ e, w.heap[φ id]? = some (.cells #[v] e (0, 0))) ∧ w.cell? ⟨φ id, 0, none⟩ = some v ∧ w.frozen? ⟨φ id, 0, none⟩ = false := by
 have hob := h.obj id _ hs
 simp only [CO] at hob
 obtain ⟨ys, e, hb, hc, _⟩ := hob
 simp only [H7] at hc
 obtain ⟨z, zs, hz, h1, rfl⟩ := hc
 have hz1 : z = v := (U3 h1).1
 subst hz1
 have hys : ys = #[z] := by cases ys; simp_all
 subst hys
 exact ⟨⟨e, hb⟩, by simp [World.cell?, hb], by simp [World.frozen?, hb]⟩

/-- A store into a variable's one cell. -/
theorem RS.set1 (h : RS E F sto w A φ) {id : Nat} {v : Value} (hs : sto id = some (.box [.t (.v v)])) {v' : Value} (hv : v'.oneCell' = true) :
  RS E F (upd sto id (some (.box [.t (.v v')]))) (w.setCell ⟨φ id, 0, none⟩ v') A φ ∧ Goes A A w (w.setCell ⟨φ id, 0, none⟩ v') := by
 obtain ⟨⟨e, hb⟩, _, _⟩ := h.cell1 hs
 have he : w.setCell ⟨φ id, 0, none⟩ v' = w.setRow (φ id) #[v'] := by
  unfold World.setCell World.setRow
  congr 1
  apply Array.ext_getElem?
  intro k
  simp only [Array.getElem?_modify]
  by_cases hk : φ id = k
  ·subst hk; simp [hb]
  ·simp [hk]
 rw [he]
 have hg : Goes A A w (w.setRow (φ id) #[v']) := A1l hb rfl (h.liv id _ hs rfl).1
 refine ⟨RS.write h hs rfl hb rfl (by simp [Ob.ids, B5, AV.ids]) ?_, hg⟩
 simp only [CO]
 refine ⟨#[v'], e, setRow_heap w _ _ _ _ _ hb, ?_, by simpa using hv⟩
 simp only [H7, CA, CT]
 exact ⟨v', [], rfl, ⟨rfl, hv⟩, rfl⟩
end
end Go.Sx

namespace Go.Sx

/-- Slim code. 'vars': the slots that are met behind a region. -/
inductive SC where
 | skip
 | ret
 | reg (base : Nat) (ops : List SO) (draw : Bool) (prs : List (Nat × Nat)) (vars : List Nat)
 | seq (a b : SC)
 | cond (c : SV) (a b : SC)
 | block (id : Nat) (a : SC)
 | loop (a : SC)
 | exit (id : Nat)
 | rng (g : SV) (ps : List Nat) (asg body : SC)
 | bad
 deriving Inhabited

def H1 : List (Nat × AV) → Nat → AV
 | [], _ => .undef
 | (i, x) :: l, k => if k = i then x else H1 l k

/-- Only some slots. -/
def C2n (vars : List Nat) (env : Nat → AV) : Nat → AV := H1 (vars.map fun k => (k, env k))

def A2e (P : Program) (G : Nat → Option (List T)) (n : Nat) (vars : List Nat) : Nat → Code → Option (SC × Nat)
 | b, .skip => some (.skip, b)
 | b, .ret => some (.ret, b)
 | b, .exit id => some (.exit id, b)
 | b, .region _ ops draw => match C3x P G n ops draw with
  | some (l, prs) => some (.reg b l draw prs vars, b + l.length)
  | none => none
 | b, .seq x y => match A2e P G n vars b x with
  | some (x', b') => match A2e P G n vars b' y with
   | some (y', b'') => some (.seq x' y', b'')
   | none => none
  | none => none
 | b, .cond c x y => match L9 G c, A2e P G n vars b x with
  | some c', some (x', b') => match A2e P G n vars b' y with
   | some (y', b'') => some (.cond c' x' y', b'')
   | none => none
  | _, _ => none
 | b, .block id x => match A2e P G n vars b x with
  | some (x', b') => some (.block id x', b')
  | none => none
 | b, .loop x => match A2e P G n vars b x with
  | some (x', b') => some (.loop x', b')
  | none => none
 | b, .rangeFunc g ps x y => match L9 G g, A2e P G n vars b x with
  | some g', some (x', b') => match A2e P G n vars b' y with
   | some (y', b'') => if ps.toList.all (fun p => decide (p < n)) then some (.rng g' ps.toList x' y', b'') else none
   | none => none
  | _, _ => none
 | b, _ => some (.bad, b)

/-- No loop in it. -/
def SC.plain : SC → Bool
 | .loop _ | .rng _ _ _ _ | .bad => false
 | .seq a b | .cond _ a b => a.plain && b.plain
 | .block _ a => a.plain
 | _ => true

/-- An iterator that hands out values one by one, and keeps what is left of a text in a variable of its own. -/
def E24 (P : Program) (gf : FuncId) (v0 v1 v2 : Value) (xs : List Value) : Prop :=
 ∀ (m l b0 b1 b2 : Nat) (J : Nat → ByteArray → World → Prop) (Stop : World → Prop) (s : ByteArray) (W : World), v0 = .string s →
  (∀ k r W, J k r W → (W.cell? ⟨b0, 0, none⟩ = some (.string r) ∧ W.frozen? ⟨b0, 0, none⟩ = false) ∧ W.cell? ⟨b1, 0, none⟩ = some v1 ∧ W.cell? ⟨b2, 0, none⟩ = some v2) →
  (∀ k r r' W, J k r W → J k r' (W.setCell ⟨b0, 0, none⟩ (.string r'))) →
  (∀ k r W x, J k r W → xs[k]? = some x → YieldAt Fence.wide m P l #[x] W fun e W' => (e = .returned (.bool true) ∧ J (k + 1) r W') ∨ (e = .returned (.bool false) ∧ Stop W')) →
  J 0 s W → CallsIn Fence.wide m P gf (#[.func (.yield l) #[] #[]] ++ #[.pointer (some ⟨b1, 0, none⟩), .pointer (some ⟨b0, 0, none⟩), .pointer (some ⟨b2, 0, none⟩)]) W fun e W' =>
   (∃ v, e = .returned v) ∧ ((∃ r, J xs.length r W') ∨ Stop W')

section
variable (P : Program) (E : Env) (io : List Nat)

/-- What a call in a region asks, and what then holds. -/
def E0z (st : St) (f : SV) (as : List SV) (K : Rc → Prop) : Prop :=
 ∃ g first caps, f.ev st.env = .fn g first caps ∧ ∃ r ins outs sn keep ys, CallOk P E st.sto g (first ++ as.map (·.ev st.env) ++ caps) r ins outs sn keep ys ∧
  K ⟨r, B5 (first ++ as.map (·.ev st.env) ++ caps) ++ A4 outs ++ sn, outs ++ (if keep then [] else A2f st.sto sn)⟩

def opW (id : Nat) (k : SK) (st : St) (K : Rc → Prop) : Prop :=
 match k with
 | .op o => match J9 id o (·.ev st.env) st.sto with
  | some (x, wr) => K ⟨x, rds id o (·.ev st.env), wr⟩
  | none => False
 | .call f as => E0z P E st f as K

def C3m (draw : Bool) : Nat → List SO → List Rc → St → (List Rc → St → Prop) → Prop
 | _, [], acc, st, K => K acc st
 | id, o :: l, acc, st, K =>
  match A42 o.guard st.env with
  | some false => C3m draw (id + 1) l (if draw then acc ++ [⟨.tp [], [], []⟩] else acc) (st.app o.dst ⟨.tp [], [], []⟩) K
  | some true => opW P E id o.k st fun rc => C3m draw (id + 1) l (if draw then acc ++ [rc] else acc) (st.app o.dst rc) K
  | none => False

def A6e (prs : List (Nat × Nat)) (acc : List Rc) : Prop := ∀ p ∈ prs, ∃ a b, acc[p.1]? = some a ∧ acc[p.2]? = some b ∧ B5s a b = true

/-- The weakest state from which code comes to Q. -/
def SC.wp : SC → (Exit → St → Prop) → St → Prop
 | .bad, _, _ => False
 | .skip, Q, st => Q .normal st
 | .ret, Q, st => Q .ret st
 | .exit id, Q, st => Q (.exit id) st
 | .reg base ops draw prs vars, Q, st => C3m P E draw base ops [] st fun acc st' => A6e prs acc ∧ Q .normal ⟨C2n vars st'.env, st'.sto⟩
 | .seq a b, Q, st => a.wp (fun e s => match e with | .normal => b.wp Q s | e => Q e s) st
 | .cond c a b, Q, st => match c.ev st.env with
  | .t (.v (.bool t)) => (t = true → a.wp Q st) ∧ (t = false → b.wp Q st)
  | _ => False
 | .block id a, Q, st => a.wp (fun e s => match e with | .exit i => if i = id then Q .normal s else Q (.exit i) s | e => Q e s) st
 | .loop a, Q, st => ∃ (I : Nat → St → Prop), (∃ k s, Sub io st s ∧ I k s) ∧ ∀ k s, I k s → a.wp (fun e s' => match e with | .normal => ∃ j t, j < k ∧ Sub io s' t ∧ I j t | e => Q e s') s
 | .rng g [p] asg body, Q, st => ∃ (gf : FuncId) (i0 i1 i2 : Nat) (s0 : ByteArray) (v1 v2 : Value) (xs : List Value) (I : Nat → St → Prop), E24 P gf (.string s0) v1 v2 xs ∧ (∀ args w, (callFunc gf args).run P w = .ok (.enter gf args) w) ∧ asg.plain = true ∧ body.plain = true ∧ (∀ x ∈ xs, x.oneCell' = true) ∧
   (∃ s, Sub io st s ∧ I 0 s ∧ s.sto i0 = some (.box [.t (.v (.string s0))])) ∧
   (∀ k s, I k s → g.ev s.env = .fn gf [] [.ptr i1 0, .ptr i0 0, .ptr i2 0] ∧ (∃ r, s.sto i0 = some (.box [.t (.v (.string r))])) ∧ s.sto i1 = some (.box [.t (.v v1)]) ∧ s.sto i2 = some (.box [.t (.v v2)])) ∧
   (∀ k s r, I k s → I k ⟨s.env, upd s.sto i0 (some (.box [.t (.v (.string r))]))⟩) ∧
   (∀ k s x, I k s → xs[k]? = some x → asg.wp (fun e s1 => e = .normal ∧ body.wp (fun e s2 => match e with
    | .normal => ∃ t, Sub io ⟨s.env, s2.sto⟩ t ∧ I (k + 1) t ∧ t.sto i0 = s.sto i0
    | .ret => Q .ret ⟨s.env, s2.sto⟩
    | .exit id => Q (.exit id) ⟨s.env, s2.sto⟩
    | _ => False) s1) ⟨upd s.env p (.t (.v x)), s.sto⟩) ∧
   (∀ s, I xs.length s → Q .normal s)
 | .rng _ _ _ _, _, _ => False
end

section
variable {P : Program} {E : Env} {G : Nat → Option (List T)} {F : Frm} {ds : List Deferred}

theorem C7o {draw : Bool} : ∀ {l : List SO} {id : Nat} {acc : List Rc} {st : St} {K : List Rc → St → Prop}, C3m P E draw id l acc st K → ∃ rs st', rs.length = l.length ∧ B4h P E (A3h id l rs) st st' ∧ K (if draw then acc ++ rs else acc) st'
 | [], id, acc, st, K, h => ⟨[], st, rfl, by simp [A3h, B4h], by simpa [C3m] using h⟩
 | o :: l, id, acc, st, K, h => by
  have next : ∀ rc, Can P E id o st rc → C3m P E draw (id + 1) l (if draw then acc ++ [rc] else acc) (st.app o.dst rc) K → ∃ rs st', rs.length = (o :: l).length ∧ B4h P E (A3h id (o :: l) rs) st st' ∧ K (if draw then acc ++ rs else acc) st' := by
   intro rc hc hr
   obtain ⟨rs, st', h1, h2, h3⟩ := C7o hr
   refine ⟨rc :: rs, st', by simp [h1], by simp only [A3h, B4h]; exact ⟨hc, h2⟩, ?_⟩
   cases draw with
   | false => simpa using h3
   | true => simpa using h3
  simp only [C3m] at h
  split at h
  ·rename_i hw
   exact next _ (by unfold Can; rw [hw]) h
  ·rename_i hw
   unfold opW at h
   split at h
   ·rename_i so hk
    split at h
    ·rename_i x wr hc
     exact next ⟨x, rds id so (·.ev st.env), wr⟩ (by unfold Can; rw [hw]; simp only [C8g, hk]; exact ⟨hc, trivial⟩) h
    ·exact h.elim
   ·rename_i f as hk
    obtain ⟨g, first, caps, h1, r, ins, outs, sn, keep, ys, h2, h3⟩ := h
    exact next _ (by unfold Can; rw [hw]; simp only [C8g, hk]; exact ⟨g, first, caps, h1, ins, outs, sn, keep, ys, h2, rfl, rfl⟩) h3
  ·exact h.elim

theorem C4p (vars : List Nat) (env : Nat → AV) (k : Nat) : C2n vars env k = env k ∨ C2n vars env k = .undef := by
 unfold C2n
 induction vars with
 | nil => exact Or.inr rfl
 | cons i l ih =>
  simp only [List.map_cons, H1]
  split
  ·rename_i h; subst h; exact Or.inl rfl
  ·exact ih

theorem RE.keep {st : St} {n : Nat} {a : Act} {w : World} {A : Nat → Prop} {φ : Nat → Nat} (r : RE ds st n a w A φ) (vars : List Nat) : RE ds ⟨C2n vars st.env, st.sto⟩ n a w A φ where
 size := r.size
 defers := r.defers
 val := fun k => by
  rcases C4p vars st.env k with h | h
  ·simp only [h]; exact r.val k
  ·simp only [h, CA]
 nod := fun k id hid => by
  rcases C4p vars st.env k with h | h
  ·simp only [h] at hid; exact r.nod k id hid
  ·simp only [h] at hid; simp [AV.ids] at hid

theorem C4u {p : Nat → Prop} (h : ∃ k, p k) : ∃ k, p k ∧ ∀ j, p j → k ≤ j := by
 obtain ⟨k, hk⟩ := h
 induction k using Nat.strongRecOn with
 | _ k ih =>
  by_cases hj : ∃ j, j < k ∧ p j
  ·obtain ⟨j, hj, hp⟩ := hj; exact ih j hj hp
  ·exact ⟨k, hk, fun j hp => Nat.le_of_not_lt fun hlt => hj ⟨j, hlt, hp⟩⟩

open Classical in
theorem D6w {Fc : Fence} {nn : Nat} {c : Code} {Q : Exit → Act → World → Prop} (I : Nat → Act → World → Prop) (round : ∀ k a w, I k a w → c.wpIn Fc nn P (Exit.then (fun a' w' => ∃ j, j < k ∧ I j a' w') Q) a w) {k : Nat} {a : Act} {w : World} (h : I k a w) : (Code.loop c).wpIn Fc nn P Q a w := by
 refine wpIn_loop (fun a w => ∃ k, I k a w) (fun a w => if h : ∃ k, I k a w then (C4u h).choose else 0) ⟨k, h⟩ ?_
 intro a w hI
 have hf := (C4u hI).choose_spec.1
 refine wpIn_mono (round _ a w hf) ?_
 rintro e a' w' hq
 cases e with
 | normal =>
  obtain ⟨j, hj, hIj⟩ := hq
  have hex : ∃ k, I k a' w' := ⟨j, hIj⟩
  refine ⟨hex, ?_⟩
  simp only [dif_pos hex, dif_pos hI]
  exact Nat.lt_of_le_of_lt ((C4u hex).choose_spec.2 j hIj) hj
 | _ => exact hq

/-- The marks of the loops that are over: their blocks are shut and hold nothing. -/
def C2t (K : List (Nat × Obj)) (ds : List Deferred) : Prop := ds.Nodup ∧ ∀ d ∈ ds, ∃ D, d = { target := .collected D, args := #[] } ∧ (D, Obj.deferred (some [])) ∈ K

/-- An abstract end, said of the machine. -/
def C3c (E : Env) (F : Frm) (n : Nat) (Q : Exit → St → Prop) : Exit → Act → World → Prop := fun e a w => ∃ st A φ ds K, Q e st ∧ RS E ⟨F.w, F.A, F.φ, F.io, K, F.V⟩ st.sto w A φ ∧ RE ds st n a w A φ ∧ C2t K ds ∧ F.K ⊆ K

theorem C3c.of {n : Nat} {Q : Exit → St → Prop} {e : Exit} {st : St} {a : Act} {w : World} {A : Nat → Prop} {φ : Nat → Nat} (hq : Q e st) (h : RS E F st.sto w A φ) (r : RE ds st n a w A φ) (hM : C2t F.K ds) : C3c E F n Q e a w := ⟨st, A, φ, ds, F.K, hq, h, r, hM, fun _ h => h⟩

theorem C3c.up {n : Nat} {Q : Exit → St → Prop} {e : Exit} {a : Act} {w : World} {K : List (Nat × Obj)} (hK : F.K ⊆ K) (h : C3c E ⟨F.w, F.A, F.φ, F.io, K, F.V⟩ n Q e a w) : C3c E F n Q e a w := by
 obtain ⟨st, A, φ, ds, K', hq, h, r, hM, hs⟩ := h
 exact ⟨st, A, φ, ds, K', hq, h, r, hM, fun _ hp => hs (hK hp)⟩

/-- What slim code vouches for. -/
def C9j (P : Program) (E : Env) (n : Nat) (c : Code) (sc : SC) : Prop := ∀ (ro : Option Nat) (nn : Nat) (F : Frm) (ds : List Deferred) (Q : Exit → St → Prop) (st : St) (a : Act) (w : World) (A : Nat → Prop) (φ : Nat → Nat),
 (F.V = [] ∧ ro = none) ∨ sc.plain = true → sc.wp P E F.io Q st → RS E F st.sto w A φ → RE ds st n a w A φ → C2t F.K ds → c.wpIn (fnc ro) nn P (C3c E F n Q) a w

theorem CA.blank {A A' : Nat → Prop} {φ φ' : Nat → Nat} {w w' : World} {x : AV} (h : CA A φ w x undef) : CA A' φ' w' x undef := by
 unfold undef at h ⊢
 cases x with
 | t y =>
  cases y with
  | v u =>
   simp only [CA, CT] at h
   obtain ⟨h1, h2⟩ := h
   subst h1
   simp [Value.oneCell'] at h2
  | sl sz es => simp [CA, CT] at h
 | ag xs => simp [CA] at h
 | tp xs =>
  simp only [CA] at h
  obtain ⟨ys, h1, h2⟩ := h
  injection h1 with h1
  subst h1
  cases xs with
  | nil => simp only [CA]; exact ⟨#[], rfl, by simp [H7]⟩
  | cons x xs => simp [H7] at h2
 | ptr i o => simp [CA] at h
 | ept i s j o => simp [CA] at h
 | ipt cs => simp [CA] at h
 | ifc b => simp only [CA] at h ⊢; exact h
 | own i s o l r => simp [CA] at h
 | fn f a b => simp [CA] at h
 | undef => simp only [CA]

/-- The caller's slots, kept beside a round. -/
def B7z (n : Nat) (env : Nat → AV) (a : Act) : List (AV × Value) := (List.range n).map fun k => (env k, a.tmps.getD k undef)

theorem RE.back {n : Nat} {env : Nat → AV} {sto0 sto : Nat → Option Ob} {a : Act} {w w' : World} {A A' : Nat → Prop} {φ φ' : Nat → Nat} (r : RE ds ⟨env, sto0⟩ n a w A φ)
  (h : ∀ p ∈ B7z n env a, CA A' φ' w' p.1 p.2 ∧ ∀ i ∈ p.1.ids, (sto i).isSome = true) : RE ds ⟨env, sto⟩ n a w' A' φ' := by
 have far : ∀ k, n ≤ k → a.tmps.getD k undef = undef := fun k hk => by
  rw [Array.getD_eq_getD_getElem?, Array.getElem?_eq_none (by rw [r.size]; exact hk)]; rfl
 have mem : ∀ k, k < n → (env k, a.tmps.getD k undef) ∈ B7z n env a := fun k hk => List.mem_map.2 ⟨k, by simpa using hk, rfl⟩
 exact {
  size := r.size
  defers := r.defers
  val := fun k => by
   by_cases hk : k < n
   ·exact (h _ (mem k hk)).1
   ·have h1 := r.val k
    rw [far k (by omega)] at h1 ⊢
    exact CA.blank h1
  nod := fun k id hid => by
   by_cases hk : k < n
   ·exact (h _ (mem k hk)).2 id hid
   ·have h1 := r.val k
    rw [far k (by omega)] at h1
    exfalso
    show False
    have hid' : id ∈ (env k).ids := hid
    have h1' : CA A φ w (env k) undef := h1
    unfold undef at h1'
    cases hx : env k with
    | t y => rw [hx] at hid'; simp [AV.ids] at hid'
    | ag xs => rw [hx] at h1'; simp [CA] at h1'
    | tp xs =>
     rw [hx] at h1' hid'
     simp only [CA] at h1'
     obtain ⟨ys, h1, h2⟩ := h1'
     injection h1 with h1
     subst h1
     cases xs with
     | nil => simp [AV.ids, B5] at hid'
     | cons x xs => simp [H7] at h2
    | ptr i o => rw [hx] at h1'; simp [CA] at h1'
    | ept i s j o => rw [hx] at h1'; simp [CA] at h1'
    | ipt cs => rw [hx] at h1'; simp [CA] at h1'
    | ifc b => rw [hx] at hid'; simp [AV.ids] at hid'
    | own i s o l r => rw [hx] at h1'; simp [CA] at h1'
    | fn f a b => rw [hx] at h1'; simp [CA] at h1'
    | undef => rw [hx] at hid'; simp [AV.ids] at hid' }

theorem RE.vals {n : Nat} {st : St} {a : Act} {w : World} {A : Nat → Prop} {φ : Nat → Nat} (r : RE ds st n a w A φ) : ∀ p ∈ B7z n st.env a, CA A φ w p.1 p.2 ∧ ∀ i ∈ p.1.ids, (st.sto i).isSome = true := by
 intro p hp
 obtain ⟨k, _, rfl⟩ := List.mem_map.1 hp
 exact ⟨r.val k, r.nod k⟩

theorem RE.more {n : Nat} {st : St} {a : Act} {w : World} {A : Nat → Prop} {φ : Nat → Nat} (r : RE ds st n a w A φ) (d : List Deferred) : RE (d ++ ds) st n { a with defers := d ++ a.defers } w A φ where
 size := r.size
 defers := by simp [r.defers]
 val := r.val
 nod := r.nod

theorem E27 (hG : GOK E G) {n : Nat} {g : Operand} {ps : Array Tmp} {asg body : Code} {g' : SV} {asg' body' : SC} (hg : L9 G g = some g') (hp : ps.toList.all (fun p => decide (p < n)) = true)
  (ha : C9j P E n asg asg') (hb : C9j P E n body body') : C9j P E n (.rangeFunc g ps asg body) (.rng g' ps.toList asg' body') := by
 intro ro nn F ds Q st a w A φ hV hw h r hM
 obtain ⟨hF0, rfl⟩ : F.V = [] ∧ ro = none := hV.resolve_right (by simp [SC.plain])
 obtain ⟨pl, hpl⟩ : ∃ pl, ps.toList = pl := ⟨_, rfl⟩
 rw [hpl] at hw hp
 match pl, hpl, hw, hp with
 | [], _, hw, _ => simp only [SC.wp] at hw
 | _ :: _ :: _, _, hw, _ => simp only [SC.wp] at hw
 | [p], hpl, hw, hp =>
 have hps : ps = #[p] := by cases ps; simp_all
 subst hps
 simp only [List.all_cons, List.all_nil, Bool.and_true, decide_eq_true_eq] at hp
 simp only [SC.wp] at hw
 obtain ⟨gf, i0, i1, i2, s0, v1, v2, xs, I, hiter, henter, hpa, hpb, hone, ⟨s, hsub, hI0, hs0⟩, hcap, hset, hround, hdone⟩ := hw
 obtain ⟨A0, φ0, h0, r0⟩ := hsub.ok hF0 h r
 obtain ⟨hgs, ⟨_, _⟩, hs1, hs2⟩ := hcap 0 s hI0
 -- the function's own variables
 have point : ∀ k t W A' φ', I k t → RE ds t n a W A' φ' → ∀ K, RS E ⟨F.w, F.A, F.φ, F.io, K, []⟩ t.sto W A' φ' → a.eval g = .func (.func gf) #[] #[.pointer (some ⟨φ' i1, 0, none⟩), .pointer (some ⟨φ' i0, 0, none⟩), .pointer (some ⟨φ' i2, 0, none⟩)] := by
  intro k t W A' φ' hI hr K hrs
  have h1 := (M9 hG hrs hr hg).1
  rw [(hcap k t hI).1] at h1
  simp only [CA, H7] at h1
  obtain ⟨us, ys, h1, h2, z0, zs0, h3, h4, z1, zs1, h5, h6, z2, zs2, h7, h8, h9⟩ := h1
  subst h9 h8 h6 h4 h7 h5
  rw [h1]
  congr 1
  ·cases us; simp_all
  ·cases ys; simp_all
 obtain ⟨rec, hrec⟩ : ∃ rec : FuncId → LoopState → Option Code → Loop, rec = fun fn s pe => { state := s, pending := pe, fn, tmps := a.tmps, params := #[p], assign := asg, body, defers := w.heap.size } := ⟨_, rfl⟩
 have recd : ∀ fn s s' pe pe', ({ rec fn s pe with state := s', pending := pe' } : Loop) = rec fn s' pe' := by rw [hrec]; intros; rfl
 have recs : ∀ fn s s' pe, ({ rec fn s pe with state := s' } : Loop) = rec fn s' pe := by rw [hrec]; intros; rfl
 have recp : ∀ fn s pe, (rec fn s pe).pending = pe := by rw [hrec]; intros; rfl
 have recst : ∀ fn s pe, (rec fn s pe).state = s := by rw [hrec]; intros; rfl
 refine wpIn_rangeFunc ?_
 intro fn hfn
 obtain ⟨l, hl0⟩ : ∃ l, w.heap.size + 1 = l := ⟨_, rfl⟩
 obtain ⟨KS, hKS⟩ : ∃ KS : LoopState → Option Code → List (Nat × Obj), KS = fun s pe => (l, .loop (rec fn s pe)) :: (w.heap.size, .deferred (some [])) :: F.K := ⟨_, rfl⟩
 have hsz : F.w.heap.size ≤ w.heap.size := h0.size
 have hKlt : ∀ q ∈ F.K, q.1 < w.heap.size := fun q hq => A88 (h0.kept q hq).2.1
 have ncl : ∀ r : Loop, B22 (.loop r) := fun r c e f => by simp
 have h1 := h0.lay (.deferred (some [])) (fun c e f => by simp)
 have h2 := h1.lay (.loop (rec fn .ready none)) (ncl _)
 have r1 := (r0.goes (A47 h0.alt (.deferred (some [])))).goes (A47 h1.alt (.loop (rec fn .ready none)))
 simp only [World.size_alloc, hl0, hF0] at h2
 obtain ⟨W1, hW1⟩ : ∃ W1, (w.alloc (.deferred (some []))).alloc (.loop (rec fn .ready none)) = W1 := ⟨_, rfl⟩
 rw [hW1] at h2 r1
 have h2 : RS E ⟨F.w, F.A, F.φ, F.io, KS .ready none, []⟩ s.sto W1 A0 φ0 := by rw [hKS]; exact h2
 have hev := point 0 s W1 A0 φ0 hI0 r1 _ h2
 -- the record is turned
 have turn : ∀ {K' V sto W A' φ' s1 pe1}, RS E ⟨F.w, F.A, F.φ, F.io, K', V⟩ sto W A' φ' → (l, Obj.loop (rec fn s1 pe1)) ∈ K' → (w.heap.size, Obj.deferred (some [])) ∈ K' → F.K ⊆ K' → ∀ s2 pe2,
   RS E ⟨F.w, F.A, F.φ, F.io, KS s2 pe2, V⟩ sto (W.putObj l (.loop (rec fn s2 pe2))) A' φ' := by
  intro K' V sto W A' φ' s1 pe1 hr hin hinD hsub s2 pe2
  obtain ⟨_, k2, _, k4⟩ := hr.kept _ hin
  refine RS.put hr k2 (ncl _) k4 (by show F.w.heap.size ≤ l; omega) _ ?_
  intro q hq
  rw [hKS] at hq
  simp only [List.mem_cons] at hq
  rcases hq with rfl | rfl | hq
  ·exact Or.inr ⟨rfl, ncl _⟩
  ·exact Or.inl ⟨hinD, by show w.heap.size ≠ l; omega⟩
  ·exact Or.inl ⟨hsub hq, by have := hKlt q hq; omega⟩
 have inL : ∀ s pe, (l, Obj.loop (rec fn s pe)) ∈ KS s pe := by rw [hKS]; intros; simp
 have inD : ∀ s pe, (w.heap.size, Obj.deferred (some [])) ∈ KS s pe := by rw [hKS]; intros; simp
 have inK : ∀ s pe, F.K ⊆ KS s pe := by rw [hKS]; intro s pe q hq; simp [hq]
 have goesL : ∀ {K' V sto W A' φ' s1 pe1} (o : Obj), RS E ⟨F.w, F.A, F.φ, F.io, K', V⟩ sto W A' φ' → (l, Obj.loop (rec fn s1 pe1)) ∈ K' → Goes A' A' W (W.putObj l o) := by
  intro K' V sto W A' φ' s1 pe1 o hr hin
  obtain ⟨_, k2, _, k4⟩ := hr.kept _ hin
  exact C5p k2 (ncl _) k4
 refine ⟨l, [{ target := .collected w.heap.size, args := #[] }], W1, { target := .fn (.func gf) #[.pointer (some ⟨φ0 i1, 0, none⟩), .pointer (some ⟨φ0 i0, 0, none⟩), .pointer (some ⟨φ0 i2, 0, none⟩)], args := #[.func (.yield l) #[] #[]] }, W1, gf,
  #[.func (.yield l) #[] #[]] ++ #[.pointer (some ⟨φ0 i1, 0, none⟩), .pointer (some ⟨φ0 i0, 0, none⟩), .pointer (some ⟨φ0 i2, 0, none⟩)], W1, ?_, ?_, ?_, ?_, fun h => by simp [fnc, Fence.wide] at h, ?_⟩
 ·rw [← hW1, ← hl0, hrec]; exact run_enterLoop_outer _ _ _ _ _
 ·simp only [resolve, hev]
  simp [go_sem]
 ·intro f' hf'; trivial
 ·simp [invoke, go_sem, henter]
 ·refine CallsIn.mono (hiter (nn - 1) l (φ0 i0) (φ0 i1) (φ0 i2)
   (fun k r W => ∃ t A φ, I k t ∧ t.sto i0 = some (.box [.t (.v (.string r))]) ∧ RS E ⟨F.w, F.A, F.φ, F.io, KS .ready none, []⟩ t.sto W A φ ∧ RE ds t n a W A φ)
   (fun W => ∃ t A φ c e, RS E ⟨F.w, F.A, F.φ, F.io, KS .done (some c), []⟩ t.sto W A φ ∧ RE ds t n a W A φ ∧ Q e t ∧ ((c = .ret ∧ e = .ret) ∨ ∃ id, c = .exit id ∧ e = .exit id))
   s0 W1 rfl ?_ ?_ ?_ ⟨s, A0, φ0, hI0, hs0, h2, r1⟩) ?_
  ·rintro k r W ⟨t, A1, φ1, hI, hr, hrs, hre⟩
   have hev1 := (point k t W A1 φ1 hI hre _ hrs).symm.trans hev
   simp only [Value.func.injEq, Array.mk.injEq, List.cons.injEq, Value.pointer.injEq, Option.some.injEq, Addr.mk.injEq, and_true, true_and] at hev1
   obtain ⟨e1, e0, e2⟩ := hev1
   obtain ⟨_, _, c1, c2⟩ := hcap k t hI
   rw [← e0, ← e1, ← e2]
   exact ⟨(hrs.cell1 hr).2, (hrs.cell1 c1).2.1, (hrs.cell1 c2).2.1⟩
  ·rintro k r r' W ⟨t, A1, φ1, hI, hr, hrs, hre⟩
   have hev1 := (point k t W A1 φ1 hI hre _ hrs).symm.trans hev
   simp only [Value.func.injEq, Array.mk.injEq, List.cons.injEq, Value.pointer.injEq, Option.some.injEq, Addr.mk.injEq, and_true, true_and] at hev1
   rw [← hev1.2.1]
   obtain ⟨g1, g2⟩ := hrs.set1 hr (v' := .string r') rfl
   refine ⟨⟨t.env, upd t.sto i0 (some (.box [.t (.v (.string r'))]))⟩, A1, φ1, hset k t r' hI, by simp, g1, ?_⟩
   have hg := hre.goes g2
   exact ⟨hg.size, hg.defers, hg.val, fun k id hid => by
    by_cases hk : id = i0
    ·simp [hk]
    ·simp only [D5 _ _ hk]; exact hg.nod k id hid⟩
  ·rintro k r W x ⟨t, A1, φ1, hI, hr, hrs, hre⟩ hx
   have hl := (hrs.kept _ (inL .ready none)).2.1
   have hy := run_yield (P := P) (args := #[x]) hl (by rw [hrec]; rfl)
   have hy : (Instr.yield l #[x]).run P W = .ok (.round l fn (a.tmps.setIfInBounds p x) asg body) W := by rw [hy, hrec]; simp
   refine ⟨fn, _, asg, body, hy, roundIn_of_wpIn trivial ?_⟩
   have hox := hone x (List.mem_of_getElem? hx)
   have hw1 := hround k t x hI hx
   have hrs1 := RS.frame hrs (KS .ready none) (B7z n t.env a) hrs.kept hre.vals
   have hre1 : RE [] ⟨upd t.env p (.t (.v x)), t.sto⟩ n { tmps := a.tmps.setIfInBounds p x, defers := [] } W A1 φ1 := {
    size := by simp [hre.size]
    defers := rfl
    val := fun k => by
     rw [B9z _ _ _ _ _ (by rw [hre.size]; exact hp)]
     by_cases hk : k = p
     ·simp only [hk, A1e, if_true, CA, CT]; exact ⟨trivial, hox⟩
     ·simp only [D5 _ _ hk, if_neg hk]; exact hre.val k
    nod := fun k id hid => by
     by_cases hk : k = p
     ·simp [hk, AV.ids] at hid
     ·simp only [D5 _ _ hk] at hid; exact hre.nod k id hid }
   show asg.wpIn (fnc (some l)) (nn - 1) P _ { tmps := a.tmps.setIfInBounds p x, defers := [] } W
   refine wpIn_mono (ha (some l) (nn - 1) ⟨F.w, F.A, F.φ, F.io, KS .ready none, B7z n t.env a⟩ [] _ _ { tmps := a.tmps.setIfInBounds p x, defers := [] } W A1 φ1 (Or.inr hpa) hw1 hrs1 hre1 ⟨List.nodup_nil, by simp⟩) ?_
   rintro e a1 W2 ⟨st1, A2, φ2, ds1, K1, ⟨rfl, hw2⟩, hrs2, hre2, hM2, hK2⟩
   have hl2 := (hrs2.kept _ (hK2 (inL .ready none))).2.1
   have hbr := run_beginRound (P := P) hl2 (recst _ _ _)
   rw [recs] at hbr
   refine Exists.intro _ ⟨hbr, ?_⟩
   have hrs3 : RS E ⟨F.w, F.A, F.φ, F.io, (l, .loop (rec fn .busy none)) :: K1.filter (fun q => decide (q.1 ≠ l)), B7z n t.env a⟩ st1.sto (W2.putObj l (.loop (rec fn .busy none))) A2 φ2 := by
    refine RS.put hrs2 hl2 (ncl _) (hrs2.kept _ (hK2 (inL .ready none))).2.2.2 (by show F.w.heap.size ≤ l; omega) _ ?_
    intro q hq
    rcases List.mem_cons.1 hq with rfl | hq
    ·exact Or.inr ⟨rfl, ncl _⟩
    ·simp only [List.mem_filter, decide_eq_true_eq] at hq; exact Or.inl hq
   have hM3 : C2t ((l, .loop (rec fn .busy none)) :: K1.filter (fun q => decide (q.1 ≠ l))) ds1 := by
    refine ⟨hM2.1, fun d hd => ?_⟩
    obtain ⟨D', rfl, hin⟩ := hM2.2 d hd
    refine ⟨D', rfl, List.mem_cons_of_mem _ (List.mem_filter.2 ⟨hin, ?_⟩)⟩
    simp only [decide_eq_true_eq]
    intro e
    have := (hrs2.kept _ hin).2.1
    simp only [e] at this
    rw [hl2] at this
    simp at this
   refine wpIn_mono (hb (some l) (nn - 1) ⟨F.w, F.A, F.φ, F.io, (l, .loop (rec fn .busy none)) :: K1.filter (fun q => decide (q.1 ≠ l)), B7z n t.env a⟩ ds1 _ st1 a1 _ A2 φ2 (Or.inr hpb) hw2 hrs3 (hre2.goes (goesL _ hrs2 (hK2 (inL .ready none)))) hM3) ?_
   rintro e a3 W3 ⟨st3, A3, φ3, ds3, K3, hq, hrs4, hre4, hM4, hK4⟩
   have hin3 : (l, Obj.loop (rec fn .busy none)) ∈ K3 := hK4 (by simp)
   have hfar : ∀ q : Nat × Obj, q.1 ≠ l → q ∈ KS .ready none → q ∈ K3 := fun q hne hq => hK4 (List.mem_cons_of_mem _ (List.mem_filter.2 ⟨hK2 hq, by simpa using hne⟩))
   have hl3 := (hrs4.kept _ hin3).2.1
   have fin : ∀ s2 pe2, RS E ⟨F.w, F.A, F.φ, F.io, KS s2 pe2, []⟩ st3.sto (W3.putObj l (.loop (rec fn s2 pe2))) A3 φ3 ∧ RE ds ⟨t.env, st3.sto⟩ n a (W3.putObj l (.loop (rec fn s2 pe2))) A3 φ3 := by
    intro s2 pe2
    have g := turn hrs4 hin3 (hfar _ (by show w.heap.size ≠ l; omega) (inD _ _)) (fun q hq => hfar q (by have := hKlt q hq; omega) (inK _ _ hq)) s2 pe2
    exact ⟨RS.frame g _ [] g.kept (by simp), RE.back hre g.vals⟩
   cases e with
   | normal =>
    obtain ⟨t', hs', hI', hi'⟩ := hq
    obtain ⟨f1, f2⟩ := fin .ready none
    obtain ⟨A', φ', g1, g2⟩ := Sub.ok (F := ⟨F.w, F.A, F.φ, F.io, KS .ready none, []⟩) rfl hs' f1 f2
    have he := run_endRound (P := P) none hl3
    simp only [Option.isNone_none, if_true, recd] at he
    exact ⟨_, _, he, Or.inl ⟨rfl, t', A', φ', hI', by rw [hi']; exact hr, g1, g2⟩⟩
   | ret =>
    obtain ⟨f1, f2⟩ := fin .done (some .ret)
    have he := run_endRound (P := P) (some .ret) hl3
    simp only [Option.isNone_some, Bool.false_eq_true, if_false, recd] at he
    exact ⟨_, _, he, Or.inr ⟨rfl, ⟨t.env, st3.sto⟩, A3, φ3, .ret, .ret, f1, f2, hq, Or.inl ⟨rfl, rfl⟩⟩⟩
   | exit id =>
    obtain ⟨f1, f2⟩ := fin .done (some (.exit id))
    have he := run_endRound (P := P) (some (.exit id)) hl3
    simp only [Option.isNone_some, Bool.false_eq_true, if_false, recd] at he
    exact ⟨_, _, he, Or.inr ⟨rfl, ⟨t.env, st3.sto⟩, A3, φ3, .exit id, .exit id, f1, f2, hq, Or.inr ⟨id, rfl, rfl⟩⟩⟩
   | _ => exact hq.elim
  ·have hMk : ∀ o, C2t ((l, o) :: (w.heap.size, Obj.deferred (some [])) :: F.K) ([{ target := .collected w.heap.size, args := #[] }] ++ ds) := fun o => by
    refine ⟨List.nodup_cons.2 ⟨fun hin => ?_, hM.1⟩, fun d hd => ?_⟩
    ·obtain ⟨D', he, hk⟩ := hM.2 _ hin
     injection he with he _
     injection he with he
     have hlt : D' < w.heap.size := hKlt _ hk
     omega
    ·rcases List.mem_cons.1 hd with rfl | hd
     ·exact ⟨_, rfl, by simp⟩
     ·obtain ⟨D', he, hk⟩ := hM.2 _ hd
      exact ⟨D', he, by simp [hk]⟩
   have up : ∀ {e t A1 φ1 W2 s1 pe1}, Q e t → RS E ⟨F.w, F.A, F.φ, F.io, KS s1 pe1, []⟩ t.sto W2 A1 φ1 → RE ds t n a W2 A1 φ1 →
     C3c E F n Q e { a with defers := [{ target := .collected w.heap.size, args := #[] }] ++ a.defers } (W2.putObj l (.loop (rec fn .exhausted pe1))) := by
    intro e t A1 φ1 W2 s1 pe1 hq hrs hre
    refine ⟨t, A1, φ1, _, KS .exhausted pe1, hq, ?_, (hre.goes (goesL _ hrs (inL _ _))).more _, ?_, inK _ _⟩
    ·rw [hF0]; exact turn hrs (inL _ _) (inD _ _) (inK _ _) _ _
    ·rw [hKS]; exact hMk _
   rintro e W2 ⟨⟨v, rfl⟩, (⟨r, t, A1, φ1, hI, _, hrs, hre⟩ | ⟨t, A1, φ1, c, e', hrs, hre, hq, hc⟩)⟩
   ·have he := run_endLoop (P := P) (hrs.kept _ (inL _ _)).2.1 (by rw [recst]; simp)
    rw [recs, recp] at he
    exact ⟨none, _, he, up (hdone t hI) hrs hre⟩
   ·have he := run_endLoop (P := P) (hrs.kept _ (inL _ _)).2.1 (by rw [recst]; simp)
    rw [recs, recp] at he
    refine ⟨some c, _, he, ?_⟩
    rcases hc with ⟨rfl, rfl⟩ | ⟨id, rfl, rfl⟩
    ·exact wpIn_ret (up hq hrs hre)
    ·exact wpIn_exit (up hq hrs hre)

theorem A7y (hm : P.follows .mixedOrders = true) (hG : GOK E G) {n : Nat} {vars : List Nat} : ∀ (c : Code) (b b' : Nat) (sc : SC), A2e P G n vars b c = some (sc, b') → C9j P E n c sc
 | .skip, b, b', sc, hs => by
  simp only [A2e, Option.some.injEq, Prod.mk.injEq] at hs
  obtain ⟨rfl, rfl⟩ := hs
  intro ro nn F ds Q st a w A φ hV hw h r hM
  exact wpIn_skip (C3c.of hw h r hM)
 | .ret, b, b', sc, hs => by
  simp only [A2e, Option.some.injEq, Prod.mk.injEq] at hs
  obtain ⟨rfl, rfl⟩ := hs
  intro ro nn F ds Q st a w A φ hV hw h r hM
  exact wpIn_ret (C3c.of hw h r hM)
 | .exit id, b, b', sc, hs => by
  simp only [A2e, Option.some.injEq, Prod.mk.injEq] at hs
  obtain ⟨rfl, rfl⟩ := hs
  intro ro nn F ds Q st a w A φ hV hw h r hM
  exact wpIn_exit (C3c.of hw h r hM)
 | .region id ops draw, b, b', sc, hs => by
  simp only [A2e] at hs
  split at hs
  ·rename_i l prs hsl
   simp only [Option.some.injEq, Prod.mk.injEq] at hs
   obtain ⟨rfl, rfl⟩ := hs
   intro ro nn F ds Q st a w A φ hV hw h r hM
   simp only [SC.wp] at hw
   obtain ⟨rs, st', h1, h2, h3, h4⟩ := C7o hw
   refine D6c hm hG hsl (base := b) (fun a' w' A' φ' h' r' => ⟨_, A', φ', ds, F.K, h4, h', r'.keep vars, hM, fun _ h => h⟩) h1 h2 (fun p hp => ?_) h r
   cases draw with
   | false =>
    unfold C3x at hsl
    split at hsl
    ·simp at hsl; rw [hsl.2] at hp; simp at hp
    ·simp at hsl
   | true => simpa using h3 p hp
  ·simp at hs
 | .seq x y, b, b', sc, hs => by
  simp only [A2e] at hs
  split at hs
  ·rename_i x' b1 hx
   split at hs
   ·rename_i y' b2 hy
    simp only [Option.some.injEq, Prod.mk.injEq] at hs
    obtain ⟨rfl, rfl⟩ := hs
    intro ro nn F ds Q st a w A φ hV hw h r hM
    simp only [SC.wp] at hw
    refine wpIn_seq (wpIn_mono (A7y hm hG x b b1 x' hx ro nn F ds _ st a w A φ (hV.imp_right fun h => (by simp only [SC.plain, Bool.and_eq_true] at h; exact h.1)) hw h r hM) fun e a' w' ⟨s, A', φ', ds', K', hq, h', r', hM', hK'⟩ => ?_)
    cases e with
    | normal => exact wpIn_mono (A7y hm hG y b1 b2 y' hy ro nn ⟨F.w, F.A, F.φ, F.io, K', F.V⟩ ds' Q s a' w' A' φ' (hV.imp_right fun h => (by simp only [SC.plain, Bool.and_eq_true] at h; exact h.2)) hq h' r' hM') fun _ _ _ => C3c.up hK'
    | _ => exact ⟨s, A', φ', ds', K', hq, h', r', hM', hK'⟩
   ·simp at hs
  ·simp at hs
 | .cond c x y, b, b', sc, hs => by
  simp only [A2e] at hs
  split at hs
  ·rename_i c' x' b1 hc hx
   split at hs
   ·rename_i y' b2 hy
    simp only [Option.some.injEq, Prod.mk.injEq] at hs
    obtain ⟨rfl, rfl⟩ := hs
    intro ro nn F ds Q st a w A φ hV hw h r hM
    simp only [SC.wp] at hw
    split at hw
    ·rename_i t ht
     have ev := (M9 hG h r hc).1
     rw [ht] at ev
     refine wpIn_cond_split (U3 ev).1 (fun ht => ?_) (fun ht => ?_)
     ·exact A7y hm hG x b b1 x' hx ro nn F ds Q st a w A φ (hV.imp_right fun h => (by simp only [SC.plain, Bool.and_eq_true] at h; exact h.1)) (hw.1 ht) h r hM
     ·exact A7y hm hG y b1 b2 y' hy ro nn F ds Q st a w A φ (hV.imp_right fun h => (by simp only [SC.plain, Bool.and_eq_true] at h; exact h.2)) (hw.2 ht) h r hM
    ·exact hw.elim
   ·simp at hs
  ·simp at hs
 | .block id x, b, b', sc, hs => by
  simp only [A2e] at hs
  split at hs
  ·rename_i x' b1 hx
   simp only [Option.some.injEq, Prod.mk.injEq] at hs
   obtain ⟨rfl, rfl⟩ := hs
   intro ro nn F ds Q st a w A φ hV hw h r hM
   simp only [SC.wp] at hw
   refine wpIn_block (wpIn_mono (A7y hm hG x b b1 x' hx ro nn F ds _ st a w A φ (hV.imp_right fun h => (by simpa only [SC.plain] using h)) hw h r hM) fun e a' w' ⟨s, A', φ', ds', K', hq, h', r', hM', hK'⟩ => ?_)
   cases e with
   | exit i =>
    simp only [Exit.inBlock]
    simp only at hq
    by_cases hi : i = id
    ·rw [if_pos hi] at hq ⊢; exact ⟨s, A', φ', ds', K', hq, h', r', hM', hK'⟩
    ·rw [if_neg hi] at hq ⊢; exact ⟨s, A', φ', ds', K', hq, h', r', hM', hK'⟩
   | _ => exact ⟨s, A', φ', ds', K', hq, h', r', hM', hK'⟩
  ·simp at hs
 | .loop x, b, b', sc, hs => by
  simp only [A2e] at hs
  split at hs
  ·rename_i x' b1 hx
   simp only [Option.some.injEq, Prod.mk.injEq] at hs
   obtain ⟨rfl, rfl⟩ := hs
   intro ro nn F ds Q st a w A φ hV hw h r hM
   have hV := hV.resolve_right (by simp [SC.plain])
   simp only [SC.wp] at hw
   obtain ⟨I, ⟨k, s, hsub, hI⟩, hround⟩ := hw
   obtain ⟨A0, φ0, h0, r0⟩ := hsub.ok hV.1 h r
   refine D6w (fun k a w => ∃ s A φ ds K, I k s ∧ RS E ⟨F.w, F.A, F.φ, F.io, K, F.V⟩ s.sto w A φ ∧ RE ds s n a w A φ ∧ C2t K ds ∧ F.K ⊆ K) ?_ (k := k) ⟨s, A0, φ0, ds, F.K, hI, h0, r0, hM, fun _ h => h⟩
   intro k a w ⟨s, A, φ, ds, K, hI, h, r, hM, hK⟩
   refine wpIn_mono (A7y hm hG x b b1 x' hx ro nn ⟨F.w, F.A, F.φ, F.io, K, F.V⟩ ds _ s a w A φ (Or.inl hV) (hround k s hI) h r hM) fun e a' w' hl => ?_
   obtain ⟨s', A', φ', ds', K', hq, h', r', hM', hK'⟩ := C3c.up hK hl
   cases e with
   | normal =>
    obtain ⟨j, t, hj, hsub, hI⟩ := hq
    obtain ⟨A1, φ1, h1, r1⟩ := Sub.ok (F := ⟨F.w, F.A, F.φ, F.io, K', F.V⟩) hV.1 hsub h' r'
    exact ⟨j, hj, t, A1, φ1, ds', K', hI, h1, r1, hM', hK'⟩
   | _ => exact ⟨s', A', φ', ds', K', hq, h', r', hM', hK'⟩
  ·simp at hs
 | .rangeFunc g ps x y, b, b', sc, hs => by
  simp only [A2e] at hs
  split at hs
  ·rename_i g' x' b1 hg hx
   split at hs
   ·rename_i y' b2 hy
    split at hs
    ·rename_i hp
     simp only [Option.some.injEq, Prod.mk.injEq] at hs
     obtain ⟨rfl, rfl⟩ := hs
     exact E27 hG hg hp (A7y hm hG x b b1 x' hx) (A7y hm hG y b1 b2 y' hy)
    ·simp at hs
   ·simp at hs
  ·simp at hs
 | .goto _, _, _, _, hs => by simp only [A2e, Option.some.injEq, Prod.mk.injEq] at hs; obtain ⟨rfl, rfl⟩ := hs; intro ro nn F ds Q st a w A φ hV hw h r hM; exact hw.elim
 | .label _, _, _, _, hs => by simp only [A2e, Option.some.injEq, Prod.mk.injEq] at hs; obtain ⟨rfl, rfl⟩ := hs; intro ro nn F ds Q st a w A φ hV hw h r hM; exact hw.elim
 | .scope _, _, _, _, hs => by simp only [A2e, Option.some.injEq, Prod.mk.injEq] at hs; obtain ⟨rfl, rfl⟩ := hs; intro ro nn F ds Q st a w A φ hV hw h r hM; exact hw.elim
 | .refuse _, _, _, _, hs => by simp only [A2e, Option.some.injEq, Prod.mk.injEq] at hs; obtain ⟨rfl, rfl⟩ := hs; intro ro nn F ds Q st a w A φ hV hw h r hM; exact hw.elim

end
end Go.Sx

namespace Go.Sx

inductive RV where
 | tmp (t : Nat)
 | cell (a : Nat) (agg : Bool) (sz : Nat)
 deriving Inhabited

def B02 (P : Program) : List ResultVar → Option (List RV)
 | [] => some []
 | .tmp t :: l => (B02 P l).map fun r => .tmp t :: r
 | .cell a t :: l => match P.underlying t, Q8 P t, B02 P l with
  | some d, some n, some r => some (.cell a (S5 d) n :: r)
  | _, _, _ => none

def D0c (st : St) : RV → Option AV
 | .tmp t => some (st.env t)
 | .cell a agg sz => (J9 0 (.load agg sz (.tm a)) (·.ev st.env) st.sto).map (·.1)

def D20 (st : St) : List RV → Option (List AV)
 | [] => some []
 | v :: l => match D0c st v, D20 st l with
  | some x, some xs => some (x :: xs)
  | _, _ => none

def A8t : List AV → AV
 | [x] => x
 | l => .tp l

def D38 (x : AV) : Nat → AV := fun k => if k = 0 then x else .undef

/-- How a body has to end. -/
def A7q (io : List Nat) (res : List RV) (r : AV) (outs : List (Nat × Ob)) : Exit → St → Prop := fun e st =>
 (match e with | .normal | .ret => True | _ => False) ∧ ∃ raws, D20 st res = some raws ∧ Sub io ⟨D38 (A8t raws), st.sto⟩ ⟨D38 r, A9 outs⟩

/-- The slots as a call finds them. -/
def C9z : Nat → List AV → Nat → AV
 | _, [] => fun _ => .undef
 | i, x :: l => fun k => if k = i then x else C9z (i + 1) l k

section
variable {P : Program} {E : Env} {G : Nat → Option (List T)} {F : Frm} {ds : List Deferred}

theorem D33 {st : St} {n : Nat} {a : Act} {w : World} {A : Nat → Prop} {φ : Nat → Nat} (h : RS E F st.sto w A φ) (r : RE ds st n a w A φ) : ∀ {l : List ResultVar} {rv : List RV} {xs : List AV}, B02 P l = some rv → D20 st rv = some xs →
  ∃ vs : List Value, (l.mapM (fun x => match x with
   | .tmp t => pure (a.tmps.getD t undef)
   | .cell p t => do loadVar t (← asAddr (a.tmps.getD p undef)) : ResultVar → Sem Value)).run P w = .ok vs w ∧ H7 A φ w xs vs ∧ ∀ i ∈ B5 xs, (st.sto i).isSome = true
 | [], rv, xs, h1, h2 => by
  simp only [B02, Option.some.injEq] at h1; subst h1
  simp only [D20, Option.some.injEq] at h2; subst h2
  exact ⟨[], by simp, by simp [H7], by simp [B5]⟩
 | .tmp t :: l, rv, xs, h1, h2 => by
  simp only [B02, Option.map_eq_some_iff] at h1
  obtain ⟨rv', h1, rfl⟩ := h1
  simp only [D20, D0c] at h2
  split at h2
  ·rename_i x xs' hx hxs
   injection hx with hx; subst hx
   injection h2 with h2; subst h2
   obtain ⟨vs, g1, g2, g3⟩ := D33 h r h1 hxs
   refine ⟨a.tmps.getD t undef :: vs, ?_, ?_, fun i hi => ?_⟩
   ·simp only [List.mapM_cons, Sem.run_bind, Sem.run_pure, Result.andThen_ok]
    rw [g1]; rfl
   ·simp only [H7]; exact ⟨_, vs, rfl, r.val t, g2⟩
   ·simp only [B5, List.mem_append] at hi
    exact hi.elim (r.nod t i) (g3 i)
  ·simp at h2
 | .cell p t :: l, rv, xs, h1, h2 => by
  simp only [B02] at h1
  split at h1
  ·rename_i d m rv' hu hm hl
   injection h1 with h1; subst h1
   simp only [D20] at h2
   split at h2
   ·rename_i x xs' hx hxs
    injection h2 with h2; subst h2
    simp only [D0c, Option.map_eq_some_iff] at hx
    obtain ⟨⟨x', wr⟩, hc, rfl⟩ := hx
    have hp := r.val p
    have hc' : J9 0 (.load (S5 d) m (.tm p)) (fun _ => st.env p) st.sto = some (x', wr) := by
     have := B8d (id := 0) (o := .load (S5 d) m (.tm p)) (ρ := (·.ev st.env)) (ρ' := fun _ => st.env p) (sto := st.sto) (sto' := st.sto) (fun y hy => by simp [SOp.svs] at hy; rw [hy]; rfl) (fun _ _ => rfl)
     rw [this.1]; exact hc
    obtain ⟨_, v, hr, hca, hid⟩ := D2a h hu hm hp hc'
    obtain ⟨vs, g1, g2, g3⟩ := D33 h r hl hxs
    have hptr : ∃ ad, a.tmps.getD p undef = .pointer (some ad) := by
     simp only [J9, SV.ev] at hc
     split at hc
     ·rename_i hv; rw [hv] at hp; simp only [CA] at hp; exact ⟨_, hp⟩
     ·rename_i hv; rw [hv] at hp; simp only [CA] at hp; exact ⟨_, hp⟩
     ·rename_i hv; rw [hv] at hp; simp only [CA] at hp; obtain ⟨b, o, hp, _⟩ := hp; exact ⟨_, hp⟩
     ·simp at hc
    obtain ⟨ad, had⟩ := hptr
    refine ⟨v :: vs, ?_, ?_, fun i hi => ?_⟩
    ·rw [had] at hr
     simp only [Instr.loadAt, Instr.sureAddr, Sem.run_bind, Sem.run_pure, Result.andThen_ok] at hr
     have hasA : (asAddr (a.tmps.getD p undef)).run P w = .ok ad w := by rw [had]; rfl
     simp only [List.mapM_cons, Sem.run_bind, hasA, Sem.run_pure, Result.andThen_ok, hr]
     rw [g1]; rfl
    ·simp only [H7]; exact ⟨v, vs, rfl, hca, g2⟩
    ·simp only [B5, List.mem_append] at hi
     exact hi.elim (hid i) (g3 i)
   ·simp at h2
  ·simp at h1

theorem C41 : ∀ (l : List AV) (i k : Nat), C9z i l k = if i ≤ k then (l[k - i]?).getD .undef else .undef
 | [], i, k => by simp [C9z]
 | x :: l, i, k => by
  simp only [C9z]
  rw [C41 l (i + 1) k]
  by_cases h1 : k = i
  ·subst h1; simp
  ·by_cases h2 : i ≤ k
   ·rw [if_neg h1, if_pos (by omega), if_pos h2, show k - i = (k - (i + 1)) + 1 from by omega, List.getElem?_cons_succ]
   ·rw [if_neg h1, if_neg (by omega), if_neg h2]

/-- The marks are come to; then the results are read. -/
theorem C0p {fn : Func} {R : Ending → World → Prop} {st : St} {n : Nat} {T : Array Value} {A : Nat → Prop} {φ : Nat → Nat}
  (hend : ∀ (w : World) (K : List (Nat × Obj)) (ds : List Deferred) , RS E ⟨F.w, F.A, F.φ, F.io, K, F.V⟩ st.sto w A φ ∧ RE ds st n ⟨T, ds⟩ w A φ → LeavesIn Fence.wide 0 P fn T R [] .returning w) :
  ∀ {ds : List Deferred} {K : List (Nat × Obj)} {w : World}, C2t K ds → RS E ⟨F.w, F.A, F.φ, F.io, K, F.V⟩ st.sto w A φ → RE ds st n ⟨T, ds⟩ w A φ → LeavesInM Fence.wide 0 P fn T R ds .returning w
 | [], K, w, _, h, r => hend w K [] ⟨h, r⟩
 | d :: ds, K, w, hM, h, r => by
  obtain ⟨D, rfl, hin⟩ := hM.2 _ (List.mem_cons_self ..)
  obtain ⟨k1, k2, k3, k4⟩ := h.kept _ hin
  have hn := List.nodup_cons.1 hM.1
  have ne : ∀ D', ({ target := .collected D', args := #[] } : Deferred) ∈ ds → D' ≠ D := fun D' hd e => hn.1 (e ▸ hd)
  have hM' : C2t (K.filter fun q => decide (q.1 ≠ D)) ds := ⟨hn.2, fun d hd => by
   obtain ⟨D', rfl, hk⟩ := hM.2 d (List.mem_cons_of_mem _ hd)
   exact ⟨D', rfl, List.mem_filter.2 ⟨hk, by simpa using ne D' hd⟩⟩⟩
  have h' := RS.put h (o' := .deferred none) k2 k3 k4 k1 (K.filter fun q => decide (q.1 ≠ D)) (fun q hq => by
   simp only [List.mem_filter, decide_eq_true_eq] at hq; exact Or.inl hq)
  have r' : RE ds st n ⟨T, ds⟩ (w.putObj D (.deferred none)) A φ := by
   have := r.goes (C5p (o' := .deferred none) k2 k3 k4)
   exact ⟨this.size, rfl, this.val, this.nod⟩
  refine ⟨by simp, Or.inl ⟨D, _, rfl, run_takeDeferred k2, ?_⟩⟩
  exact C0p hend hM' h' r'

theorem D7c (hm : P.follows .mixedOrders = true) (hG : GOK E G) {f : FuncId} {fn : Func} {c : Code} {n b' : Nat} {sc : SC} {vars : List Nat} {rv : List RV} (hf : P.funcs[f]? = some fn) (hb : fn.body = some c) (hname : (fn.name == "runtime.NumGoroutine") = false)
  (hsl : A2e P G n vars 100 c = some (sc, b')) (hn : fn.ntmps = n) (hres : B02 P fn.results.toList = some rv) {args : List AV} {ins outs : List (Nat × Ob)} {r : AV} (hlen : args.length ≤ n)
  (h1 : Shut args ins) (h2 : Shut [r] outs) (h3 : ∀ i ∈ A4 ins, i ∈ A4 outs) (hio : ∀ i ∈ A4 ins, i < 100)
  (hw : sc.wp P E (A4 ins) (A7q (A4 ins) rv r outs) ⟨C9z 0 args, A9 ins⟩) : Meets P E f args ins r outs where
 shutIn := h1
 shutOut := h2
 stay := h3
 runs := fun A φ w vals gi gA alt hH hargs => by
  have hvl : vals.size = args.length := by have := hargs.length; simpa using this
  refine Or.inl ⟨?_, ?_⟩
  ·simp only [callFunc, Sem.run_bind, run_program, Result.andThen_ok, hf, hname, Bool.false_eq_true, if_false, hb, Option.isNone_some, Sem.run_pure]
  ·have hrs : RS E ⟨w, A, φ, A4 ins, [], []⟩ (A9 ins) w A φ := {
    nod := fun id o ho j hj => D8.2 (h1.objs id o ho j hj)
    obj := hH.obj
    liv := fun id o ho _ => ⟨(hH.own id o ho).1, (hH.own id o ho).2, Or.inl ⟨D8.1 (by rw [ho]; rfl), rfl⟩⟩
    inj := fun i j oi oj hi hj _ _ hij => hH.inj i j (D8.1 (by rw [hi]; rfl)) (D8.1 (by rw [hj]; rfl)) hij
    alt := alt
    gi := gi
    gA := gA
    os := rfl
    tape := rfl
    output := rfl
    drawn := fun _ => Nat.le_refl _
    kept := by simp
    vals := by simp
    size := Nat.le_refl _
    old := fun _ _ _ => rfl
    asub := fun _ h => h
    anew := fun _ h => Or.inl h
    cap := fun _ _ h => h
    ioc := hio
    iok := fun _ _ _ _ _ => rfl }
   have hre : RE [] ⟨C9z 0 args, A9 ins⟩ n { tmps := vals ++ Array.replicate (fn.ntmps - vals.size) undef, defers := [] } w A φ := {
    size := by simp [hvl, hn]; omega
    defers := rfl
    val := fun k => by
     simp only [C41, Nat.zero_le, if_true, Nat.sub_zero]
     cases hx : args[k]? with
     | none => simp only [Option.getD_none, CA]
     | some x =>
      simp only [Option.getD_some]
      obtain ⟨y, hy, hc⟩ := hargs.get hx
      have hk := (List.getElem?_eq_some_iff.1 hx).1
      have : (vals ++ Array.replicate (fn.ntmps - vals.size) undef).getD k undef = y := by
       rw [Array.getD_eq_getD_getElem?, Array.getElem?_append_left (by omega)]
       simp only [Array.getElem?_toList] at hy
       rw [hy]; rfl
      rw [this]; exact hc
    nod := fun k i hi => by
     simp only [C41, Nat.zero_le, if_true, Nat.sub_zero] at hi
     cases hx : args[k]? with
     | none => rw [hx] at hi; simp [AV.ids] at hi
     | some x =>
      rw [hx] at hi
      exact D8.2 (h1.vals i (A3t.2 ⟨x, List.mem_of_getElem? hx, hi⟩)) }
   refine callsIn_wide.1 (callsIn_of_wp_marks (F := Fence.wide) (n := 0) hf hb trivial ?_)
   have := A7y hm hG c 100 b' sc hsl none 0 ⟨w, A, φ, A4 ins, [], []⟩ [] _ _ _ w A φ (Or.inl ⟨rfl, rfl⟩) hw hrs hre ⟨List.nodup_nil, by simp⟩
   refine wpIn_mono this fun e a w' ⟨st, A', φ', ds, K, ⟨he, raws, hraw, hsub⟩, hrs', hre', hM, _⟩ => ?_
   have fin : LeavesInM Fence.wide 0 P fn a.tmps (fun e w' => ∃ v', e = .returned v' ∧ ∃ A' φ', Fin E A φ w ins r outs v' w' A' φ') a.defers .returning w' := by
    rw [hre'.defers]
    have hre0 : RE ds st n ⟨a.tmps, ds⟩ w' A' φ' := ⟨hre'.size, rfl, hre'.val, hre'.nod⟩
    refine C0p (n := n) (F := ⟨w, A, φ, A4 ins, [], []⟩) ?_ hM hrs' hre0
    rintro w' K ds ⟨hrs', hre'⟩
    obtain ⟨vs, g1, g2, g3⟩ := D33 hrs' hre' hres hraw
    obtain ⟨π, sn, s1, s2, s3, s4, s5⟩ := hsub.ex
    have hrs' : RS E ⟨w, A, φ, A4 ins, K, []⟩ st.sto w' A' φ' := hrs'
    have hro := SubO.ok rfl hrs' s1 (fun i hi _ => ⟨s4 i hi, hio i hi⟩) (fun id o ho _ hin => s5 id (by have ho' : A9 outs id = some o := ho; show (A9 outs id).isSome = true; rw [ho']; rfl) hin)
    have hrun : (results fn a.tmps).run P w' = .ok (if h : vs.toArray.size = 1 then vs.toArray[0] else .tuple vs.toArray) w' := by
     unfold results
     rw [Array.mapM_eq_mapM_toList]
     simp only [Sem.run_bind, Sem.run_map, Sem.run_pure]
     refine (congrArg (fun q => Result.andThen (Result.andThen q _) _) g1).trans ?_
     rfl
    refine ⟨_, hrun, _, rfl, A2s A' φ' sn, φ' ∘ π, ?_⟩
    have hca : CA A' φ' w' (A8t raws) (if h : vs.toArray.size = 1 then vs.toArray[0] else .tuple vs.toArray) := by
     have hl := g2.length
     unfold A8t
     split
     ·rename_i x
      simp only [H7] at g2
      obtain ⟨z, zs, rfl, hz, rfl⟩ := g2
      simpa using hz
     ·rename_i hne
      have : ¬ vs.toArray.size = 1 := by
       simp only [List.size_toArray]
       intro h1
       rw [hl] at h1
       obtain ⟨x, hx⟩ := List.length_eq_one_iff.1 h1
       exact hne x hx
      rw [dif_neg this]
      simp only [CA]
      exact ⟨_, rfl, by simpa using g2⟩
    have hw0 := s2 0
    simp only [D38, if_true] at hw0
    have hlive := h2.live
    exact {
     go := ⟨fun b hb => ⟨hro.asub b hb, hrs'.old b (alt b hb) (fun id hid he => by
       obtain ⟨o, ho⟩ := Option.isSome_iff_exists.1 (D8.2 hid)
       have he' : φ id = b := he
       exact (hH.own id o ho).1 (by rw [he']; exact hb))⟩, hrs'.cap⟩
     agree := fun id hid => by
      obtain ⟨o, ho⟩ := Option.isSome_iff_exists.1 (D8.2 (h3 id hid))
      exact hro.iok id o ho (hlive id o ho) hid
     holds := {
      obj := hro.obj
      own := fun id o ho => ⟨(hro.liv id o ho (hlive id o ho)).1, (hro.liv id o ho (hlive id o ho)).2.1⟩
      inj := fun i j hi hj hij => by
       obtain ⟨oi, hoi⟩ := Option.isSome_iff_exists.1 (D8.2 hi)
       obtain ⟨oj, hoj⟩ := Option.isSome_iff_exists.1 (D8.2 hj)
       exact hro.inj i j oi oj hoi hoj (hlive i oi hoi) (hlive j oj hoj) hij }
     fresh := fun id hid => by
      obtain ⟨o, ho⟩ := Option.isSome_iff_exists.1 (D8.2 hid)
      exact (hro.liv id o ho (hlive id o ho)).2.2.imp (fun h => h.1) (fun h => h)
     ca := G1.ok hrs' _ _ _ hw0 hca
     anew := hro.anew
     alt := hro.alt
     old := fun b hb hne => hrs'.old b hb hne
     os := hrs'.os
     tape := hrs'.tape
     output := hrs'.output
     drawn := hrs'.drawn
     size := hrs'.size }
   cases e with
   | normal => exact fin
   | ret => exact fin
   | _ => exact he.elim

end
end Go.Sx
