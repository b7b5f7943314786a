/- From the machine's operations to slim ones. No statement of a seat is proved here. -/
import Derived.Test.YtgnokggmbkhnbaaSxEq
set_option linter.unusedSimpArgs false
set_option linter.unusedVariables false
namespace Go.Sx

def cst : Value → Option AV
  | .agg cs => if cs.all (·.oneCell') then some (.ag (cs.toList.map fun x => .t (.v x))) else none
  | .tuple _ => none
  | v => some (.t (.v v))

/-- Operands; G: the variables of the program whose cells are known. -/
def slimV (G : Nat → Option (List T)) : Operand → Option SV
  | .tmp k => some (.tm k)
  | .const v => (cst v).map .c
  | .func f => some (.c (.fn f [] []))
  | .global g => (G g).map fun cs => .c (.ipt cs)

def slimVs (G : Nat → Option (List T)) : List Operand → Option (List SV)
  | [] => some []
  | x :: xs => match slimV G x, slimVs G xs with
    | some a, some b => some (a :: b)
    | _, _ => none

def slimO (G : Nat → Option (List T)) : Option Operand → Option (Option SV)
  | none => some none
  | some x => (slimV G x).map some

def zeroT (P : Program) (t : TypeId) : Option (List T) :=
  match P.info? t with
  | some i => match i.zero with
    | some z => if z.cells.all (·.oneCell') then some (z.cells.toList.map .v) else none
    | none => none
  | none => none

def slimPs (P : Program) (G : Nat → Option (List T)) (fs : Array Field) : List (Nat × Operand) → Option (List (Nat × Nat × SV))
  | [] => some []
  | (i, x) :: ps => match fs[i]?, slimV G x, slimPs P G fs ps with
    | some f, some a, some b => match sizeT P f.type with
      | some n => some ((f.offset, n, a) :: b)
      | none => none
    | _, _, _ => none

def slimPa (G : Nat → Option (List T)) (n : Nat) : List (Nat × Operand) → Option (List (Nat × Nat × SV))
  | [] => some []
  | (i, x) :: ps => match slimV G x, slimPa G n ps with
    | some a, some b => some ((i * n, n, a) :: b)
    | _, _ => none

def slimPe (G : Nat → Option (List T)) : List (Nat × Operand) → Option (List (Nat × SV))
  | [] => some []
  | (i, x) :: ps => match slimV G x, slimPe G ps with
    | some a, some b => some ((i, a) :: b)
    | _, _ => none

def slimOp (P : Program) (G : Nat → Option (List T)) : Op → Option SOp
  | .move x | .assign x => (slimV G x).map .mv
  | .pick c a b => match slimV G c, slimV G a, slimV G b with
    | some c, some a, some b => some (.pick c a b)
    | _, _, _ => none
  | .alloc t => (zeroT P t).map .alloc
  | .box _ x => (slimV G x).map .box
  | .build t ps => match zeroT P t, P.underlying t with
    | some z, some (.struct fs) => if fs.all (fun f => (sizeT P f.type).isSome) then (slimPs P G fs ps.toList).map (.build z) else none
    | some z, some (.array _ e) => match sizeT P e with
      | some n => (slimPa G n ps.toList).map (.build z)
      | none => none
    | _, _ => none
  | .buildSlice t len ps => match P.underlying t with
    | some (.slice e) => match sizeT P e, zeroT P e, slimPe G ps.toList with
      | some n, some z, some ps => if z.length = n ∧ 0 < n ∧ len * n ≤ 2 ^ 24 then some (.bsl n len z ps) else none
      | _, _, _ => none
    | _ => none
  | .load t x => match P.underlying t, sizeT P t, slimV G x with
    | some d, some n, some x => some (.load (isAggD d) n x)
    | _, _, _ => none
  | .store t x v => match sizeT P t, slimV G x, slimV G v with
    | some n, some x, some v => some (.store n x v)
    | _, _, _ => none
  | .nilCheck x => (slimV G x).map .nilck
  | .binOp op t x y _ => match P.underlying t, slimV G x, slimV G y with
    | some (.int _), some x, some y => some (.bin op x y)
    | some .string, some x, some y => some (.bin op x y)
    | some (.slice _), some x, some (.c (.t (.v (.slice none 0 0)))) => match op with
      | .eql => some (.isnil false x)
      | .neq => some (.isnil true x)
      | _ => none
    | some .bool, some x, some y => match op with
      | .eql => some (.beq false x y)
      | .neq => some (.beq true x y)
      | _ => none
    | some (.struct _), some x, some y => if P.eqGuardType P.depth t = false then (match op, flat P 20 t with
      | .eql, some ks => some (.eqf false ks x y)
      | .neq, some ks => some (.eqf true ks x y)
      | _, _ => none) else none
    | some (.array _ _), some x, some y => if P.eqGuardType P.depth t = false then (match op, flat P 20 t with
      | .eql, some ks => some (.eqf false ks x y)
      | .neq, some ks => some (.eqf true ks x y)
      | _, _ => none) else none
    | _, _, _ => none
  | .unOp op _ x => (slimV G x).map (.un op)
  | .convert s d x => match P.underlying s, P.underlying d, slimV G x with
    | some (.int _), some (.int k), some x => some (.cvi k x)
    | _, _, _ => none
  | .fieldAddr t x i => match P.underlying t with
    | some (.struct fs) => match fs[i]?, slimV G x with
      | some f, some x => match sizeT P f.type with
        | some n => if n ≠ 0 then some (.fa f.offset x) else none
        | none => none
      | _, _ => none
    | _ => none
  | .field t x i => match P.underlying t with
    | some (.struct fs) => match fs[i]?, slimV G x with
      | some f, some x => match sizeT P f.type, P.underlying f.type with
        | some n, some d => some (.fv (isAggD d) f.offset n x)
        | _, _ => none
      | _, _ => none
    | _ => none
  | .indexAddr t x i => match P.underlying t, slimV G x, slimV G i with
    | some (.array len e), some x, some i => (sizeT P e).map fun n => .ia (some len) n x i
    | some (.slice e), some x, some i => (sizeT P e).map fun n => .ia none n x i
    | _, _, _ => none
  | .index t x i => match P.underlying t, slimV G x, slimV G i with
    | some (.array len e), some x, some i => match sizeT P e, P.underlying e with
      | some n, some d => some (.ix (some (len, n, isAggD d)) x i)
      | _, _ => none
    | some .string, some x, some i => some (.ix none x i)
    | _, _, _ => none
  | .extract x i => (slimV G x).map fun x => .ext x i
  | .makeFunc (.func f) first caps => match slimVs G first.toList, slimVs G caps.toList with
    | some a, some b => some (.mkfunc f a b)
    | _, _ => none
  | .makeSlice t l c => match P.underlying t with
    | some (.slice e) => match P.info? e, zeroT P e, slimV G l, slimV G c with
      | some i, some z, some l, some c => if z.length = i.size ∧ 0 < i.size then some (.mksl i.size i.bytes z l c) else none
      | _, _, _, _ => none
    | _ => none
  | .slice t x lo hi none => match P.underlying t, slimV G x, slimO G lo, slimO G hi with
    | some .string, some x, some lo, some hi => some (.sli 0 x lo hi)
    | some (.slice e), some x, some lo, some hi => match sizeT P e with
      | some n => if n ≠ 0 then some (.sli n x lo hi) else none
      | none => none
    | _, _, _, _ => none
  | .call ⟨.builtin .len, args, ts⟩ => match ts[0]?, args[0]? with
    | some t, some x => match P.underlying t with
      | some .string => (slimV G x).map (.len true)
      | some (.slice _) => (slimV G x).map (.len false)
      | _ => none
    | _, _ => none
  | .call ⟨.builtin .append, args, ts⟩ => match ts[0]?, ts[1]?, args[0]?, args[1]? with
    | some t, some u, some s, some x => match P.underlying t, P.underlying u with
      | some (.slice e), some (.slice _) => match P.info? e, zeroT P e, slimV G s, slimV G x with
        | some i, some z, some s, some x => if z.length = i.size ∧ 0 < i.size ∧ 0 < i.bytes then some (.app i.size i.bytes s x) else none
        | _, _, _, _ => none
      | _, _ => none
    | _, _, _, _ => none
  | .call ⟨.builtin .copy, args, ts⟩ => match ts[0]?, args[0]?, args[1]? with
    | some t, some d, some s => match P.underlying t with
      | some (.slice e) => match sizeT P e, slimV G d, slimV G s with
        | some n, some d, some s => some (.cpy n d s)
        | _, _, _ => none
      | _ => none
    | _, _, _ => none
  | .call ⟨.builtin .clear, args, ts⟩ => match ts[0]?, args[0]? with
    | some t, some d => match P.underlying t with
      | some (.slice e) => match P.info? e, zeroT P e, slimV G d with
        | some i, some z, some d => if z.length = i.size ∧ 0 < i.size then some (.clr i.size z d) else none
        | _, _, _ => none
      | _ => none
    | _, _ => none
  | .call ⟨.builtin .max, args, _⟩ => (slimVs G args.toList).map (.minmax true)
  | .call ⟨.builtin .min, args, _⟩ => (slimVs G args.toList).map (.minmax false)
  | _ => none

def GOK (E : Env) (G : Nat → Option (List T)) : Prop := ∀ g cs, G g = some cs → E.gb g ∧ ∀ A w, E.gi w → (∀ b, E.gb b → A b) → CCells A w g 0 cs

/-- What a step has done. -/
structure Did (E : Env) (F : Frm) (sto : Nat → Option Ob) (A : Nat → Prop) (φ : Nat → Nat) (w : World) (x : AV) (v : Value) (sto' : Nat → Option Ob) (w' : World) (A' : Nat → Prop) (φ' : Nat → Nat) : Prop where
  rs : RS E F sto' w' A' φ'
  go : Goes A A' w w'
  ph : ∀ id, (sto id).isSome = true → φ' id = φ id
  mo : ∀ id, (sto id).isSome = true → (sto' id).isSome = true
  ca : CA A' φ' w' x v
  nd : ∀ i ∈ x.ids, (sto' i).isSome = true

theorem Did.same {E : Env} {F : Frm} {sto : Nat → Option Ob} {A : Nat → Prop} {φ : Nat → Nat} {w : World} {x : AV} {v : Value} (h : RS E F sto w A φ) (hc : CA A φ w x v) (hn : ∀ i ∈ x.ids, (sto i).isSome = true) :
    Did E F sto A φ w x v sto w A φ := ⟨h, Goes.refl A w, fun _ _ => rfl, fun _ h => h, hc, hn⟩

def Value.isTuple : Value → Bool
  | .tuple _ => true
  | _ => false

theorem cst_ok {A : Nat → Prop} {φ : Nat → Nat} {w : World} : ∀ {v : Value} {x : AV}, cst v = some x → CA A φ w x v ∧ x.ids = [] := by
  intro v x h
  cases v with
  | agg cs =>
    simp only [cst] at h
    split at h
    · rename_i hc
      injection h with h; subst h
      refine ⟨?_, ?_⟩
      · simp only [CA]
        refine ⟨cs, rfl, CAs.iff.2 ⟨by simp, fun i x hx => ?_⟩⟩
        simp only [List.getElem?_map] at hx
        cases hy : cs.toList[i]? with
        | none => simp [hy] at hx
        | some y =>
          simp [hy] at hx; subst hx
          refine ⟨y, rfl, ?_⟩
          simp only [CA, CT, true_and]
          have hm : y ∈ cs := by
            rw [← Array.mem_toList_iff]; exact List.mem_of_getElem? hy
          exact (Array.all_eq_true_iff_forall_mem.1 hc) y hm
      · simp only [AV.ids]
        generalize cs.toList = l
        induction l with
        | nil => rfl
        | cons a l ih => simp [idsL, AV.ids, ih]
    · simp at h
  | tuple vs => simp [cst] at h
  | _ => simp only [cst, Option.some.injEq] at h; subst h; simp [CA, CT, AV.ids, Value.oneCell']

section
variable {P : Program} {E : Env} {G : Nat → Option (List T)} {F : Frm} {st : St} {n : Nat} {a : Act} {w : World} {A : Nat → Prop} {φ : Nat → Nat}

theorem ev_ok (hG : GOK E G) (h : RS E F st.sto w A φ) (r : RE st n a w A φ) {x : Operand} {sv : SV} (hx : slimV G x = some sv) :
    CA A φ w (sv.ev st.env) (a.eval x) ∧ ∀ id ∈ (sv.ev st.env).ids, (st.sto id).isSome = true := by
  cases x with
  | tmp k => simp only [slimV, Option.some.injEq] at hx; subst hx; exact ⟨r.val k, r.nod k⟩
  | const v =>
    simp only [slimV] at hx
    cases hc : cst v with
    | none => simp [hc] at hx
    | some y =>
      simp [hc] at hx; subst hx
      have := cst_ok (A := A) (φ := φ) (w := w) hc
      exact ⟨this.1, fun id hid => by simp only [SV.ev, this.2] at hid; simp at hid⟩
  | func f =>
    simp only [slimV, Option.some.injEq] at hx; subst hx
    exact ⟨by simp only [SV.ev, CA, CAs, Act.eval]; exact ⟨#[], #[], rfl, rfl, rfl⟩, by simp [SV.ev, AV.ids, idsL]⟩
  | global g =>
    simp only [slimV] at hx
    cases hc : G g with
    | none => simp [hc] at hx
    | some cs =>
      simp [hc] at hx; subst hx
      obtain ⟨h1, h2⟩ := hG g cs hc
      exact ⟨by simp only [SV.ev, CA, Act.eval]; exact ⟨g, 0, rfl, h.gA g h1, h2 A w h.gi h.gA⟩, by simp [SV.ev, AV.ids]⟩

theorem evs_ok (hG : GOK E G) (h : RS E F st.sto w A φ) (r : RE st n a w A φ) : ∀ {xs : List Operand} {svs : List SV}, slimVs G xs = some svs →
    CAs A φ w (svs.map (·.ev st.env)) (xs.map a.eval) ∧ ∀ id ∈ idsL (svs.map (·.ev st.env)), (st.sto id).isSome = true
  | [], svs, hx => by simp only [slimVs, Option.some.injEq] at hx; subst hx; simp [CAs, idsL]
  | x :: xs, svs, hx => by
    simp only [slimVs] at hx
    split at hx
    · rename_i p q h1 h2
      injection hx with hx; subst hx
      have e1 := ev_ok hG h r h1
      have e2 := evs_ok hG h r h2
      refine ⟨?_, ?_⟩
      · simp only [List.map_cons, CAs]; exact ⟨_, _, rfl, e1.1, e2.1⟩
      · intro id hid
        simp only [List.map_cons, idsL, List.mem_append] at hid
        exact hid.elim (e1.2 id) (e2.2 id)
    · simp at hx
end

end Go.Sx
