/- Slim operations: what they do to the abstract state. No statement of a seat is proved here. -/
import Derived.Test.YtgnokggmbkhnbaaSxState
set_option linter.unusedSimpArgs false
set_option linter.unusedVariables false
namespace Go.Sx

inductive SV where
  | tm (k : Nat)
  | c (x : AV)
  deriving Inhabited

def SV.ev (env : Nat → AV) : SV → AV
  | .tm k => env k
  | .c x => x

/-- The kinds of cells that are held against each other. -/
inductive EK where
  | b
  | i (k : IntKind)
  | s
  deriving Inhabited, DecidableEq

/-- A slim operation: sizes and offsets are written out. -/
inductive SOp where
  | mv (x : SV)
  | pick (c a b : SV)
  | alloc (cs : List T)
  | box (x : SV)
  | build (cs : List T) (parts : List (Nat × Nat × SV))
  | bsl (sz len : Nat) (z : List T) (parts : List (Nat × SV))
  | load (agg : Bool) (sz : Nat) (x : SV)
  | store (sz : Nat) (x v : SV)
  | nilck (x : SV)
  | bin (op : BinOp) (x y : SV)
  | beq (neg : Bool) (x y : SV)
  | eqf (neg : Bool) (ks : List EK) (x y : SV)
  | un (op : UnOp) (x : SV)
  | cvi (k : IntKind) (x : SV)
  | fa (off : Nat) (x : SV)
  | fv (agg : Bool) (off sz : Nat) (x : SV)
  | ia (len : Option Nat) (sz : Nat) (x i : SV)
  | ix (arr : Option (Nat × Nat × Bool)) (x i : SV)
  | ext (x : SV) (i : Nat)
  | len (str : Bool) (x : SV)
  | mkfunc (f : FuncId) (first caps : List SV)
  | mksl (sz bytes : Nat) (z : List T) (l c : SV)
  | app (sz bytes : Nat) (s x : SV)
  | sli (sz : Nat) (x : SV) (lo hi : Option SV)
  | minmax (max : Bool) (xs : List SV)
  | isnil (neg : Bool) (x : SV)
  | cpy (sz : Nat) (d s : SV)
  | clr (sz : Nat) (z : List T) (d : SV)
  | bad
  deriving Inhabited

def SOp.svs : SOp → List SV
  | .mv x | .box x | .load _ _ x | .nilck x | .un _ x | .cvi _ x | .fa _ x | .fv _ _ _ x | .ext x _ | .len _ x => [x]
  | .pick c a b => [c, a, b]
  | .alloc _ | .bad => []
  | .build _ ps => ps.map (·.2.2)
  | .bsl _ _ _ ps => ps.map (·.2)
  | .store _ x v | .bin _ x v | .beq _ x v | .eqf _ _ x v | .ia _ _ x v | .ix _ x v | .mksl _ _ _ x v | .app _ _ x v => [x, v]
  | .mkfunc _ a b => a ++ b
  | .sli _ x lo hi => [x] ++ lo.toList ++ hi.toList
  | .minmax _ xs => xs
  | .isnil _ x => [x]
  | .cpy _ d s => [d, s]
  | .clr _ _ d => [d]

/-- One cell's worth? -/
def AV.one : AV → Bool
  | .ag _ | .tp _ | .undef => false
  | _ => true

def AV.cells : AV → List AV
  | .ag cs => cs
  | x => [x]

/-- A cell as a tree. -/
def AV.tree : AV → Option T
  | .t x => some x
  | _ => none

def trees : List AV → Option (List T)
  | [] => some []
  | x :: xs => match x.tree, trees xs with
    | some a, some as => some (a :: as)
    | _, _ => none

/-- vs laid over cs from place off on. -/
def splice {α : Type} (cs : List α) (off : Nat) (vs : List α) : List α := cs.take off ++ vs ++ cs.drop (off + vs.length)

def fillP (ρ : SV → AV) : List AV → List (Nat × Nat × SV) → Option (List AV)
  | cs, [] => some cs
  | cs, (off, sz, x) :: ps => if (ρ x).cells.length = sz ∧ off + sz ≤ cs.length ∧ (ρ x).cells.all AV.one then fillP ρ (splice cs off (ρ x).cells) ps else none

def fillR (ρ : SV → AV) (sz : Nat) : List (List T) → List (Nat × SV) → Option (List (List T))
  | es, [] => some es
  | es, (i, x) :: ps => match trees (ρ x).cells with
    | some ts => if ts.length = sz ∧ i < es.length then fillR ρ sz (es.set i ts) ps else none
    | none => none

/-- A value out of cells. -/
def packA (agg : Bool) (sz : Nat) (cs : List AV) : Option AV :=
  if agg then (if sz ≤ cs.length then some (.ag (cs.take sz)) else none) else cs[0]?

def packT (agg : Bool) (sz : Nat) (cs : List T) : Option AV :=
  if agg then (if sz ≤ cs.length then some (.ag ((cs.take sz).map .t)) else none) else cs[0]?.map .t

def binInt (op : BinOp) (k : IntKind) (x y : Int) : Option Value :=
  match op with
  | .add => some (.int k (k.wrap (x + y)))
  | .sub => some (.int k (k.wrap (x - y)))
  | .mul => some (.int k (k.wrap (x * y)))
  | .quo => if y = 0 then none else some (.int k (k.wrap (x.tdiv y)))
  | .rem => if y = 0 then none else some (.int k (x.tmod y))
  | .and => some (.int k (k.wrap ((BitVec.ofInt k.bits x &&& BitVec.ofInt k.bits y).toNat)))
  | .or => some (.int k (k.wrap ((BitVec.ofInt k.bits x ||| BitVec.ofInt k.bits y).toNat)))
  | .xor => some (.int k (k.wrap ((BitVec.ofInt k.bits x ^^^ BitVec.ofInt k.bits y).toNat)))
  | .andNot => some (.int k (k.wrap ((BitVec.ofInt k.bits x &&& ~~~(BitVec.ofInt k.bits y)).toNat)))
  | .eql => some (.bool (x == y))
  | .neq => some (.bool (x != y))
  | .lss => some (.bool (x < y))
  | .leq => some (.bool (x ≤ y))
  | .gtr => some (.bool (x > y))
  | .geq => some (.bool (x ≥ y))
  | _ => none

def binShift (op : BinOp) (k : IntKind) (x y : Int) : Option Value :=
  if y < 0 then none else match op with
  | .shl => some (.int k (k.wrap (x * 2 ^ (min y.toNat k.bits))))
  | .shr => some (.int k (x.fdiv (2 ^ (min y.toNat k.bits))))
  | _ => none

def binStr (op : BinOp) (x y : ByteArray) : Option Value :=
  match op with
  | .add => if ((x.size + y.size : Nat) : Int) > IntKind.i64.max then none else some (.string (x ++ y))
  | .eql => some (.bool (x.toList == y.toList))
  | .neq => some (.bool (!(x.toList == y.toList)))
  | .lss => some (.bool (Op.bytesLess x.toList y.toList))
  | .leq => some (.bool (Op.bytesLess x.toList y.toList || x.toList == y.toList))
  | .gtr => some (.bool (!(Op.bytesLess x.toList y.toList || x.toList == y.toList)))
  | .geq => some (.bool (!(Op.bytesLess x.toList y.toList)))
  | _ => none

def binV (op : BinOp) : AV → AV → Option Value
  | .t (.v (.int k x)), .t (.v (.int k' y)) =>
    match op with
    | .shl | .shr => binShift op k x y
    | _ => if k = k' then binInt op k x y else none
  | .t (.v (.string x)), .t (.v (.string y)) => binStr op x y
  | _, _ => none

def unV (op : UnOp) : AV → Option Value
  | .t (.v (.int k n)) => match op with
    | .neg => some (.int k (k.wrap (0 - n)))
    | .xor => some (.int k (k.wrap ((BitVec.ofInt k.bits (if k.signed then -1 else k.max) ^^^ BitVec.ofInt k.bits n).toNat)))
    | _ => none
  | .t (.v (.bool b)) => match op with
    | .not => some (.bool (!b))
    | _ => none
  | _ => none

/-- Two cells of a kind: do they agree? -/
def eqC : EK → AV → AV → Option Bool
  | .i k, .t (.v (.int k1 x)), .t (.v (.int k2 y)) => if k1 = k ∧ k2 = k then some (x == y) else none
  | .b, .t (.v (.bool x)), .t (.v (.bool y)) => some (x == y)
  | .s, .t (.v (.string x)), .t (.v (.string y)) => some (x.toList == y.toList)
  | _, _, _ => none

def eqCs : List EK → List AV → List AV → Option Bool
  | [], [], [] => some true
  | k :: ks, x :: xs, y :: ys => match eqC k x y, eqCs ks xs ys with
    | some a, some b => some (a && b)
    | _, _ => none
  | _, _, _ => none

/-- A slice that is a tree. -/
def AV.asTree (sz : Nat) : AV → Option (List (List T))
  | .t (.sl s es) => if s = sz then some es else none
  | .t (.v (.slice _ 0 _)) => some []
  | _ => none

def AV.isNil : AV → Bool
  | .t (.v (.slice none 0 0)) => true
  | _ => false

def AV.asOwn : AV → Option (Nat × Nat × Nat × Nat × Bool)
  | .own id sz off len r => some (id, sz, off, len, r)
  | _ => none

theorem AV.asOwn_eq {x : AV} {id sz off len : Nat} {r : Bool} (h : x.asOwn = some (id, sz, off, len, r)) : x = .own id sz off len r := by
  cases x <;> simp_all [AV.asOwn]

/-- The elements of a piece of an object's row. -/
def rowPart (sz off len : Nat) : Option Ob → Option (List (List T))
  | some (.row s _ es) => if s = sz ∧ off + len ≤ es.length then some ((es.drop off).take len) else none
  | some (.fro s es) => if s = sz ∧ off + len ≤ es.length then some ((es.drop off).take len) else none
  | _ => none

/-- A slice's elements as trees. -/
def slTrees (sz : Nat) (sto : Nat → Option Ob) (x : AV) : Option (List (List T)) :=
  match x.asOwn with
  | some (id, s, off, len, _) => if s = sz then rowPart sz off len (sto id) else none
  | none => x.asTree sz

def AV.isStr : AV → Bool
  | .t (.v (.string _)) => true
  | _ => false

def lenA : AV → Option Nat
  | .t (.v (.string s)) => some s.size
  | .t (.sl _ es) => some es.length
  | .t (.v (.slice none 0 0)) => some 0
  | .t (.v (.slice (some _) 0 _)) => some 0
  | .own _ _ _ len _ => some len
  | _ => none

/-- A place further on. -/
def AV.padd (off : Nat) : AV → Option AV
  | .ptr i o => some (.ptr i (o + off))
  | .ept i s j o => some (.ept i s j (o + off))
  | .ipt cs => some (.ipt (cs.drop off))
  | _ => none

/-- A number that no object has. -/
def isFresh (sto : Nat → Option Ob) (id : Nat) : Bool := (sto id).isNone && decide (100 ≤ id)

/-- What an operation answers, and which objects it lays or writes; 'bad' is what is not to be met. -/
def core (id : Nat) (o : SOp) (ρ : SV → AV) (sto : Nat → Option Ob) : Option (AV × List (Nat × Ob)) :=
  match o with
  | .bad => none
  | .mv x => some (ρ x, [])
  | .pick c a b => match ρ c with
    | .t (.v (.bool t)) => some (if t then ρ a else ρ b, [])
    | _ => none
  | .alloc cs => if isFresh sto id = true then some (.ptr id 0, [(id, .box (cs.map .t))]) else none
  | .box x => if isFresh sto id = true ∧ (ρ x).cells.all AV.one then some (.ptr id 0, [(id, .box (ρ x).cells)]) else none
  | .build cs ps => match fillP ρ (cs.map .t) ps with
    | some r => some (.ag r, [])
    | none => none
  | .bsl sz len z ps => if isFresh sto id = true then (match fillR ρ sz (List.replicate len z) ps with
    | some es => some (.own id sz 0 len true, [(id, .row sz true es)])
    | none => none) else none
  | .load agg sz x => match ρ x with
    | .ptr i off => match sto i with
      | some (.box cs) => (packA agg sz (cs.drop off)).map fun v => (v, [])
      | _ => none
    | .ept i s j off => match sto i with
      | some (.row rsz true es) => if rsz = s then (match es[j]? with
        | some e => (packT agg sz (e.drop off)).map fun v => (v, [])
        | none => none) else none
      | some (.fro rsz es) => if rsz = s then (match es[j]? with
        | some e => (packT agg sz (e.drop off)).map fun v => (v, [])
        | none => none) else none
      | _ => none
    | .ipt cs => (packT agg sz cs).map fun v => (v, [])
    | _ => none
  | .store sz x v => match ρ x with
    | .ptr i off => match sto i with
      | some (.box cs) => if (ρ v).cells.length = sz ∧ off + sz ≤ cs.length ∧ (ρ v).cells.all AV.one then some (.undef, [(i, .box (splice cs off (ρ v).cells))]) else none
      | _ => none
    | .ept i s j off => match sto i with
      | some (.row rsz true es) => match es[j]?, trees (ρ v).cells with
        | some e, some ts => if rsz = s ∧ ts.length = sz ∧ off + sz ≤ e.length then some (.undef, [(i, .row rsz true (es.set j (splice e off ts)))]) else none
        | _, _ => none
      | _ => none
    | _ => none
  | .nilck x => match ρ x with
    | .ptr i off => some (.ptr i off, [])
    | .ept i s j off => some (.ept i s j off, [])
    | .ipt cs => some (.ipt cs, [])
    | .fn f a b => some (.fn f a b, [])
    | _ => none
  | .bin op x y => (binV op (ρ x) (ρ y)).map fun v => (.t (.v v), [])
  | .beq neg x y => match ρ x, ρ y with
    | .t (.v (.bool a)), .t (.v (.bool b)) => some (.t (.v (.bool (if neg then !(a == b) else a == b))), [])
    | _, _ => none
  | .eqf neg ks x y => match ρ x, ρ y with
    | .ag xs, .ag ys => (eqCs ks xs ys).map fun b => (.t (.v (.bool (if neg then !b else b))), [])
    | _, _ => none
  | .un op x => (unV op (ρ x)).map fun v => (.t (.v v), [])
  | .cvi k x => match ρ x with
    | .t (.v (.int _ n)) => some (.t (.v (.int k (k.wrap n))), [])
    | _ => none
  | .fa off x => match (ρ x).padd off with
    | some v => some (v, [])
    | none => none
  | .fv agg off sz x => match ρ x with
    | .ag cs => (packA agg sz (cs.drop off)).map fun v => (v, [])
    | _ => none
  | .ia len sz x i => match ρ i with
    | .t (.v (.int _ n)) => if 0 ≤ n then (match len with
      | some l => if n < l then (match (ρ x).padd (n.toNat * sz) with
        | some v => some (v, [])
        | none => none) else none
      | none => (match ρ x with
        | .own j s off l _ => if n < l ∧ s = sz then some (.ept j s (off + n.toNat) 0, []) else none
        | .t (.sl s es) => if s = sz then (match es[n.toNat]? with
          | some e => some (.ipt e, [])
          | none => none) else none
        | _ => none)) else none
    | _ => none
  | .ix arr x i => match ρ i with
    | .t (.v (.int _ n)) => if 0 ≤ n then (match arr, ρ x with
      | some (len, sz, agg), .ag cs => if n < len then (packA agg sz (cs.drop (n.toNat * sz))).map fun v => (v, []) else none
      | none, .t (.v (.string s)) => match s[n.toNat]? with
        | some b => some (.t (.v (.int .u8 b.toNat)), [])
        | none => none
      | _, _ => none) else none
    | _ => none
  | .ext x i => match ρ x with
    | .tp vs => match vs[i]? with
      | some v => some (v, [])
      | none => none
    | _ => none
  | .len s x => if (ρ x).isStr = s then (lenA (ρ x)).map fun (m : Nat) => (AV.t (.v (.int .i64 (m : Int))), []) else none
  | .mkfunc f a b => some (.fn f (a.map ρ) (b.map ρ), [])
  | .mksl sz bytes z l c => if isFresh sto id = true then (match ρ l, ρ c with
    | .t (.v (.int _ n)), .t (.v (.int _ m)) => if 0 ≤ n ∧ n ≤ m ∧ m < 2 ^ 47 ∧ bytes * m ≤ 2 ^ 48 then some (.own id sz 0 n.toNat true, [(id, .row sz true (List.replicate n.toNat z))]) else none
    | _, _ => none) else none
  | .app sz bytes s x => match slTrees sz sto (ρ x) with
    | some new => (match (ρ s).asOwn with
      | some (j, s', off, len, r') => (match sto j with
        | some (.row s'' r es) => if 100 ≤ j ∧ r' = r ∧ s' = sz ∧ s'' = sz ∧ off = 0 ∧ len = es.length ∧ (len + new.length) * bytes ≤ 2 ^ 47 ∧ len + new.length < 2 ^ 47 ∧ isFresh sto id = true
            then some (.own id sz 0 (len + new.length) (r || !new.isEmpty), [(j, .dead), (id, .row sz (r || !new.isEmpty) (es ++ new))]) else none
        | _ => none)
      | none => if (ρ s).isNil ∧ new.length * bytes ≤ 2 ^ 47 ∧ new.length < 2 ^ 47 ∧ isFresh sto id = true then some (.own id sz 0 new.length (!new.isEmpty), [(id, .row sz (!new.isEmpty) new)]) else none)
    | none => none
  | .sli sz x lo hi => match lenA (ρ x) with
    | some n =>
      match (match lo with | none => some (AV.t (.v (.int .i64 0))) | some v => some (ρ v)), (match hi with | none => some (AV.t (.v (.int .i64 n))) | some v => some (ρ v)) with
      | some (.t (.v (.int _ l))), some (.t (.v (.int _ h))) => if 0 ≤ l ∧ l ≤ h ∧ h ≤ n then (match ρ x with
        | .t (.v (.string s)) => if sz = 0 then some (.t (.v (.string (s.extract l.toNat h.toNat))), []) else none
        | .t (.sl s es) => if s = sz ∧ sz ≠ 0 then some (.t (.sl s ((es.drop l.toNat).take (h - l).toNat)), []) else none
        | .own j s off _ r => if s = sz ∧ sz ≠ 0 then some (.own j s (off + l.toNat) (h - l).toNat r, []) else none
        | .t (.v (.slice none 0 0)) => if sz ≠ 0 then some (.t (.v (.slice none 0 0)), []) else none
        | _ => none) else none
      | _, _ => none
    | none => none
  | .minmax mx xs => match xs.map ρ with
    | [.t (.v (.int k a)), .t (.v (.int k' b))] => if k = k' then some (.t (.v (.int k (if mx then max a b else min a b))), []) else none
    | _ => none
  | .isnil neg x => match ρ x with
    | .t (.v (.slice a _ _)) => some (.t (.v (.bool (a.isNone != neg))), [])
    | .t (.sl _ (_ :: _)) => some (.t (.v (.bool neg)), [])
    | .own _ _ _ len _ => if 0 < len then some (.t (.v (.bool neg)), []) else none
    | _ => none
  | .cpy sz d s => match slTrees sz sto (ρ s), (ρ d).asOwn with
    | some new, some (j, s', off, len, _) => match sto j with
      | some (.row s'' true es) => if s' = sz ∧ s'' = sz ∧ off + len ≤ es.length then some (.t (.v (.int .i64 ((min new.length len : Nat) : Int))), [(j, .row sz true (splice es off (new.take len)))]) else none
      | _ => none
    | _, _ => none
  | .clr sz z d => match (ρ d).asOwn with
    | some (j, s', off, len, _) => match sto j with
      | some (.row s'' true es) => if s' = sz ∧ s'' = sz ∧ off + len ≤ es.length then some (.tp [], [(j, .row sz true (splice es off (List.replicate len z)))]) else none
      | _ => none
    | none => none

/-- The ids of objects that an operation looks at. -/
def rds (id : Nat) (o : SOp) (ρ : SV → AV) : List Nat :=
  match o with
  | .alloc _ | .box _ | .bsl .. | .mksl .. => [id]
  | .load _ _ x | .store _ x _ => (ρ x).ids
  | .app _ _ s x => id :: (ρ s).ids ++ (ρ x).ids
  | .cpy _ d s => (ρ d).ids ++ (ρ s).ids
  | .clr _ _ d => (ρ d).ids
  | _ => []

def applyWr (sto : Nat → Option Ob) : List (Nat × Ob) → (Nat → Option Ob)
  | [] => sto
  | (i, o) :: ws => applyWr (upd sto i (some o)) ws

theorem applyWr_mono {sto : Nat → Option Ob} : ∀ {ws : List (Nat × Ob)} {i : Nat}, (sto i).isSome = true → (applyWr sto ws i).isSome = true
  | [], _, h => h
  | (j, o) :: ws, i, h => by
    simp only [applyWr]
    refine applyWr_mono ?_
    unfold upd; split <;> simp [h]

/-- The answer hangs on the operands, and on the objects that are looked at. -/
theorem core_local {id : Nat} {o : SOp} {ρ ρ' : SV → AV} {sto sto' : Nat → Option Ob} (hρ : ∀ x ∈ o.svs, ρ' x = ρ x) (hs : ∀ i ∈ rds id o ρ, sto' i = sto i) :
    core id o ρ' sto' = core id o ρ sto ∧ rds id o ρ' = rds id o ρ := by
  have hfresh : sto' id = sto id → isFresh sto' id = isFresh sto id := fun h => by unfold isFresh; rw [h]
  have fillP_eq : ∀ (ps : List (Nat × Nat × SV)) (cs : List AV), (∀ p ∈ ps, ρ' p.2.2 = ρ p.2.2) → fillP ρ' cs ps = fillP ρ cs ps := by
    intro ps
    induction ps with
    | nil => intro cs _; rfl
    | cons p ps ih =>
      intro cs h
      obtain ⟨a, b, x⟩ := p
      have hx := h (a, b, x) (by simp)
      simp only at hx
      simp only [fillP, hx]
      split
      · exact ih _ fun q hq => h q (by simp [hq])
      · rfl
  have fillR_eq : ∀ (ps : List (Nat × SV)) (sz : Nat) (es : List (List T)), (∀ p ∈ ps, ρ' p.2 = ρ p.2) → fillR ρ' sz es ps = fillR ρ sz es ps := by
    intro ps
    induction ps with
    | nil => intro sz es _; rfl
    | cons p ps ih =>
      intro sz es h
      obtain ⟨a, x⟩ := p
      have hx := h (a, x) (by simp)
      simp only at hx
      simp only [fillR, hx]
      split
      · split
        · exact ih _ _ fun q hq => h q (by simp [hq])
        · rfl
      · rfl
  cases o with
  | build cs ps =>
    have h : ∀ p ∈ ps, ρ' p.2.2 = ρ p.2.2 := fun p hp => hρ _ (by simp only [SOp.svs, List.mem_map]; exact ⟨p, hp, rfl⟩)
    exact ⟨by simp only [core, fillP_eq ps _ h], rfl⟩
  | bsl sz len z ps =>
    have h : ∀ p ∈ ps, ρ' p.2 = ρ p.2 := fun p hp => hρ _ (by simp only [SOp.svs, List.mem_map]; exact ⟨p, hp, rfl⟩)
    have h1 := hs id (by simp [rds])
    exact ⟨by simp only [core, hfresh h1, fillR_eq ps _ _ h], rfl⟩
  | mkfunc f a b =>
    have ha : a.map ρ' = a.map ρ := List.map_congr_left fun x hx => hρ x (by simp [SOp.svs, hx])
    have hb : b.map ρ' = b.map ρ := List.map_congr_left fun x hx => hρ x (by simp [SOp.svs, hx])
    exact ⟨by simp only [core, ha, hb], rfl⟩
  | minmax mx xs =>
    have ha : xs.map ρ' = xs.map ρ := List.map_congr_left fun x hx => hρ x (by simpa [SOp.svs] using hx)
    exact ⟨by simp only [core, ha], rfl⟩
  | sli sz x lo hi =>
    have hx := hρ x (by simp [SOp.svs])
    have hlo : ∀ v, lo = some v → ρ' v = ρ v := fun v hv => hρ v (by simp [SOp.svs, hv])
    have hhi : ∀ v, hi = some v → ρ' v = ρ v := fun v hv => hρ v (by simp [SOp.svs, hv])
    cases lo <;> cases hi <;> simp_all [core, rds]
  | load agg sz x =>
    have hx := hρ x (by simp [SOp.svs])
    simp only [rds] at hs
    refine ⟨?_, by simp only [rds, hx]⟩
    simp only [core, hx]
    cases hv : ρ x <;> simp_all [AV.ids]
  | store sz x v =>
    have hx := hρ x (by simp [SOp.svs])
    have hy := hρ v (by simp [SOp.svs])
    simp only [rds] at hs
    refine ⟨?_, by simp only [rds, hx]⟩
    simp only [core, hx, hy]
    cases hv : ρ x <;> simp_all [AV.ids]
  | app sz bytes s x =>
    have hx := hρ s (by simp [SOp.svs])
    have hy := hρ x (by simp [SOp.svs])
    simp only [rds] at hs
    refine ⟨?_, by simp only [rds, hx, hy]⟩
    have h0 := hs id (by simp)
    have h1 : slTrees sz sto' (ρ x) = slTrees sz sto (ρ x) := by
      unfold slTrees
      cases hv : (ρ x).asOwn with
      | none => rfl
      | some p =>
        obtain ⟨i, a, b, c, d⟩ := p
        have e := AV.asOwn_eq hv
        simp only [hs i (by simp [e, AV.ids])]
    simp only [core, hfresh h0, hx, hy, h1]
    cases hn : slTrees sz sto (ρ x) with
    | none => rfl
    | some new =>
      cases hv : (ρ s).asOwn with
      | none => rfl
      | some p =>
        obtain ⟨i, a, b, c, d⟩ := p
        have e := AV.asOwn_eq hv
        simp only [hs i (by simp [e, AV.ids])]
  | cpy sz d s =>
    have hx := hρ d (by simp [SOp.svs])
    have hy := hρ s (by simp [SOp.svs])
    simp only [rds] at hs
    refine ⟨?_, by simp only [rds, hx, hy]⟩
    have h1 : slTrees sz sto' (ρ s) = slTrees sz sto (ρ s) := by
      unfold slTrees
      cases hv : (ρ s).asOwn with
      | none => rfl
      | some p =>
        obtain ⟨i, a, b, c, d⟩ := p
        have e := AV.asOwn_eq hv
        simp only [hs i (by simp [e, AV.ids])]
    simp only [core, hx, hy, h1]
    cases hn : slTrees sz sto (ρ s) with
    | none => rfl
    | some new =>
      cases hv : (ρ d).asOwn with
      | none => rfl
      | some p =>
        obtain ⟨i, a, b, c, d⟩ := p
        have e := AV.asOwn_eq hv
        simp only [hs i (by simp [e, AV.ids])]
  | clr sz z d =>
    have hx := hρ d (by simp [SOp.svs])
    simp only [rds] at hs
    refine ⟨?_, by simp only [rds, hx]⟩
    simp only [core, hx]
    cases hv : (ρ d).asOwn with
    | none => rfl
    | some p =>
      obtain ⟨i, a, b, c, d⟩ := p
      have e := AV.asOwn_eq hv
      simp only [hs i (by simp [e, AV.ids])]
  | bad => exact ⟨rfl, rfl⟩
  | alloc cs =>
    have h1 := hs id (by simp [rds])
    exact ⟨by simp only [core, hfresh h1], rfl⟩
  | box x =>
    have h1 := hs id (by simp [rds])
    have hx := hρ x (by simp [SOp.svs])
    exact ⟨by simp only [core, hfresh h1, hx], rfl⟩
  | mksl sz bytes z l c =>
    have h1 := hs id (by simp [rds])
    have hx := hρ l (by simp [SOp.svs])
    have hy := hρ c (by simp [SOp.svs])
    exact ⟨by simp only [core, hfresh h1, hx, hy], rfl⟩
  | mv x | nilck x | un _ x | cvi _ x | fa _ x | fv _ _ _ x | ext x _ | len _ x | isnil _ x =>
    have hx := hρ x (by simp [SOp.svs])
    exact ⟨by simp only [core, hx], rfl⟩
  | pick c a b =>
    have h1 := hρ c (by simp [SOp.svs])
    have h2 := hρ a (by simp [SOp.svs])
    have h3 := hρ b (by simp [SOp.svs])
    exact ⟨by simp only [core, h1, h2, h3], rfl⟩
  | bin _ x y | beq _ x y | eqf _ _ x y | ia _ _ x y | ix _ x y =>
    have h1 := hρ x (by simp [SOp.svs])
    have h2 := hρ y (by simp [SOp.svs])
    exact ⟨by simp only [core, h1, h2], rfl⟩

end Go.Sx
