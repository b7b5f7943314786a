/- The walk over slim code, as rewriting: what is left to do is a list, slots are a list. No statement of a seat is proved here. -/
import Derived.Test.YtgmpceijcdimkaaGreatDoorSxE
set_option linter.unusedSimpArgs false
set_option linter.unusedVariables false
namespace Go.Sx

abbrev U (n : Int) : AV := .t (.v (.int .u64 n))
abbrev I (n : Int) : AV := .t (.v (.int .i64 n))
abbrev Bo (b : Bool) : AV := .t (.v (.bool b))

/-- What is left to do. -/
inductive Kt where
 | code (c : SC)
 | blk (id : Nat)
 | lp (r : St → Prop)

section
variable (P : Program) (E : Env) (io : List Nat) (Q : Exit → St → Prop)

def KW : List Kt → Exit → St → Prop
 | [], e, s => Q e s
 | .code c :: k, .normal, s => c.wp P E io (KW k) s
 | .code _ :: k, e, s => KW k e s
 | .blk id :: k, .exit i, s => if i = id then KW k .normal s else KW k (.exit i) s
 | .blk _ :: k, e, s => KW k e s
 | .lp r :: _, .normal, s => r s
 | .lp _ :: k, e, s => KW k e s

/-- The code in hand, slots and objects as lists. -/
def W (c : SC) (k : List Kt) (env : List (Nat × AV)) (sto : List (Nat × Ob)) : Prop := c.wp P E io (KW P E io Q k) ⟨H1 env, A9 sto⟩

/-- Behind the code in hand. -/
def B (k : List Kt) (e : Exit) (env : List (Nat × AV)) (sto : List (Nat × Ob)) : Prop := KW P E io Q k e ⟨H1 env, A9 sto⟩

def R (draw : Bool) (prs : List (Nat × Nat)) (vars : List Nat) (k : List Kt) (id : Nat) (ops : List SO) (acc : List Rc) (env : List (Nat × AV)) (sto : List (Nat × Ob)) : Prop :=
 C3m P E draw id ops acc ⟨H1 env, A9 sto⟩ fun acc st' => A6e prs acc ∧ KW P E io Q k .normal ⟨C2n vars st'.env, st'.sto⟩
end

/-- Slots and objects, asked for. -/
def lk (k : Nat) (env : List (Nat × AV)) : AV := H1 env k
def ls (k : Nat) (sto : List (Nat × Ob)) : Option Ob := A9 sto k
theorem E21 (k : Nat) : lk k [] = .undef := rfl
theorem E0h (k i : Nat) (x : AV) (l : List (Nat × AV)) : lk k ((i, x) :: l) = if k = i then x else lk k l := rfl
theorem C17 (k : Nat) : ls k [] = none := rfl
theorem B69 (k i : Nat) (x : Ob) (l : List (Nat × Ob)) : ls k ((i, x) :: l) = if k = i then some x else ls k l := rfl
def svE (env : List (Nat × AV)) : SV → AV
 | .tm k => lk k env
 | .c x => x
theorem C4o (env : List (Nat × AV)) : (fun x : SV => x.ev (H1 env)) = svE env := by
 funext x; cases x <;> rfl
def lsF (sto : List (Nat × Ob)) : Nat → Option Ob := fun k => ls k sto
theorem E0d (sto : List (Nat × Ob)) (k : Nat) : lsF sto k = ls k sto := rfl

/-- Some slots of a list. -/
def C2j (env : List (Nat × AV)) : List Nat → List (Nat × AV)
 | [] => []
 | k :: l => (k, lk k env) :: C2j env l

theorem D80 (env : List (Nat × AV)) (vars : List Nat) : C2n vars (H1 env) = H1 (C2j env vars) := by
 unfold C2n
 congr 1
 induction vars with
 | nil => rfl
 | cons k l ih => simp [C2j, ih, lk]

theorem B3g (d : Nat) (x : AV) (env : List (Nat × AV)) : upd (H1 env) d x = H1 ((d, x) :: env) := by
 funext k; simp [upd, H1]

theorem B3d (l : List (Nat × Ob)) (sto : List (Nat × Ob)) : A4o l (A9 sto) = A9 (l ++ sto) := by
 funext k
 unfold A4o
 induction l with
 | nil => simp [A9]
 | cons p l ih =>
  obtain ⟨i, o⟩ := p
  simp only [A9, List.cons_append]
  by_cases h : k = i
  ·simp [h]
  ·simp only [if_neg h]; exact ih

section
variable {P : Program} {E : Env} {io : List Nat} {Q : Exit → St → Prop} {k : List Kt} {env : List (Nat × AV)} {sto : List (Nat × Ob)}

theorem E2z (a b : SC) : W P E io Q (.seq a b) k env sto = W P E io Q a (.code b :: k) env sto := by
 unfold W; simp only [SC.wp]; congr 1; funext e s; cases e <;> rfl

theorem D9p (id : Nat) (a : SC) : W P E io Q (.block id a) k env sto = W P E io Q a (.blk id :: k) env sto := by
 unfold W; simp only [SC.wp]; congr 1; funext e s; cases e <;> rfl

theorem E2a : W P E io Q .skip k env sto = B P E io Q k .normal env sto := rfl
theorem E3c : W P E io Q .ret k env sto = B P E io Q k .ret env sto := rfl
theorem E2q (id : Nat) : W P E io Q (.exit id) k env sto = B P E io Q k (.exit id) env sto := rfl
theorem E3b (e : Exit) : B P E io Q [] e env sto = Q e ⟨H1 env, A9 sto⟩ := rfl
theorem E23 (c : SC) : B P E io Q (.code c :: k) .normal env sto = W P E io Q c k env sto := rfl
theorem D3d (c : SC) : B P E io Q (.code c :: k) .ret env sto = B P E io Q k .ret env sto := rfl
theorem D29 (c : SC) (i : Nat) : B P E io Q (.code c :: k) (.exit i) env sto = B P E io Q k (.exit i) env sto := rfl
theorem D5j (id : Nat) : B P E io Q (.blk id :: k) .ret env sto = B P E io Q k .ret env sto := rfl
theorem E36 (id : Nat) : B P E io Q (.blk id :: k) .normal env sto = B P E io Q k .normal env sto := rfl
theorem D3i (id i : Nat) : B P E io Q (.blk id :: k) (.exit i) env sto = if i = id then B P E io Q k .normal env sto else B P E io Q k (.exit i) env sto := by
 unfold B; simp only [KW]

/-- A test whose outcome is known. -/
def T2 (x : AV) (p q : Prop) : Prop := match x with
 | .t (.v (.bool b)) => (b = true → p) ∧ (b = false → q)
 | _ => False
theorem E00 (p q : Prop) : T2 (.t (.v (.bool true))) p q = p := by simp [T2]
theorem D7x (p q : Prop) : T2 (.t (.v (.bool false))) p q = q := by simp [T2]

theorem D34 (c : SV) (a b : SC) : W P E io Q (.cond c a b) k env sto = T2 (svE env c) (W P E io Q a k env sto) (W P E io Q b k env sto) := by
 have e : c.ev (H1 env) = svE env c := congrFun (C4o env) c
 unfold W T2; simp only [SC.wp, e]
 generalize svE env c = x
 cases x with
 | t y => cases y with
  | v z => cases z <;> rfl
  | sl _ _ => rfl
 | _ => rfl

theorem D1x (c : SV) (a b : SC) (h : svE env c = .t (.v (.bool true))) : W P E io Q (.cond c a b) k env sto = W P E io Q a k env sto := by
 rw [D34, h, E00]

theorem D1s (c : SV) (a b : SC) (h : svE env c = .t (.v (.bool false))) : W P E io Q (.cond c a b) k env sto = W P E io Q b k env sto := by
 rw [D34, h, D7x]

theorem D5e (a b : SC) : W P E io Q (.cond (.c (.t (.v (.bool true)))) a b) k env sto = W P E io Q a k env sto := D1x _ a b rfl
theorem D66 (a b : SC) : W P E io Q (.cond (.c (.t (.v (.bool false)))) a b) k env sto = W P E io Q b k env sto := D1s _ a b rfl

/-- A test whose outcome hangs on what came in. -/
theorem G3 {x : Bool} {c : SV} {a b : SC} (h : svE env c = .t (.v (.bool x))) (ht : x = true → W P E io Q a k env sto) (hf : x = false → W P E io Q b k env sto) : W P E io Q (.cond c a b) k env sto := by
 rw [D34, h]; exact ⟨ht, hf⟩

theorem E3f (base : Nat) (ops : List SO) (draw : Bool) (prs : List (Nat × Nat)) (vars : List Nat) : W P E io Q (.reg base ops draw prs vars) k env sto = R P E io Q draw prs vars k base ops [] env sto := rfl

theorem E16 (draw : Bool) (prs : List (Nat × Nat)) (vars : List Nat) (id : Nat) (acc : List Rc) : R P E io Q draw prs vars k id [] acc env sto = (A6e prs acc ∧ B P E io Q k .normal (C2j env vars) sto) := by
 unfold R B; simp only [C3m]; rw [D80]

theorem E2c (draw : Bool) (vars : List Nat) (id : Nat) (acc : List Rc) : R P E io Q draw [] vars k id [] acc env sto = B P E io Q k .normal (C2j env vars) sto := by
 rw [E16]; simp [A6e]

theorem D78 {acc : List Rc} : A6e [] acc := by simp [A6e]
theorem okp {i j : Nat} {l : List (Nat × Nat)} {acc : List Rc} {a b : Rc} (h1 : acc[i]? = some a) (h2 : acc[j]? = some b) (h3 : B5s a b = true) (h : A6e l acc) : A6e ((i, j) :: l) acc := by
 intro p hp
 rcases List.mem_cons.1 hp with rfl | hp
 ·exact ⟨a, b, h1, h2, h3⟩
 ·exact h p hp
theorem D04 {draw : Bool} {prs : List (Nat × Nat)} {vars : List Nat} {id : Nat} {acc : List Rc} (h1 : A6e prs acc) (h2 : B P E io Q k .normal (C2j env vars) sto) : R P E io Q draw prs vars k id [] acc env sto := by
 rw [E16]; exact ⟨h1, h2⟩

/-- The step behind an answer that is known. -/
def N (P : Program) (E : Env) (io : List Nat) (Q : Exit → St → Prop) (draw : Bool) (prs : List (Nat × Nat)) (vars : List Nat) (k : List Kt) (id : Nat) (ops : List SO) (acc : List Rc) (d : Option Nat) (rd : List Nat) (env : List (Nat × AV)) (sto : List (Nat × Ob)) : Option (AV × List (Nat × Ob)) → Prop
 | some (x, wr) => R P E io Q draw prs vars k (id + 1) ops (if draw then acc ++ [⟨x, rd, wr⟩] else acc) (match d with | some d => (d, x) :: env | none => env) (wr ++ sto)
 | none => False

variable {draw : Bool} {prs : List (Nat × Nat)} {vars : List Nat} {id : Nat} {acc : List Rc}

theorem N_f (ops : List SO) (d : Nat) (rd : List Nat) (x : AV) (wr : List (Nat × Ob)) : N P E io Q false prs vars k id ops acc (some d) rd env sto (some (x, wr)) = R P E io Q false prs vars k (id + 1) ops acc ((d, x) :: env) (wr ++ sto) := rfl
theorem E3i (ops : List SO) (rd : List Nat) (x : AV) (wr : List (Nat × Ob)) : N P E io Q false prs vars k id ops acc none rd env sto (some (x, wr)) = R P E io Q false prs vars k (id + 1) ops acc env (wr ++ sto) := rfl
theorem N_t (ops : List SO) (d : Nat) (rd : List Nat) (x : AV) (wr : List (Nat × Ob)) : N P E io Q true prs vars k id ops acc (some d) rd env sto (some (x, wr)) = R P E io Q true prs vars k (id + 1) ops (acc ++ [⟨x, rd, wr⟩]) ((d, x) :: env) (wr ++ sto) := rfl
theorem E3k (ops : List SO) (rd : List Nat) (x : AV) (wr : List (Nat × Ob)) : N P E io Q true prs vars k id ops acc none rd env sto (some (x, wr)) = R P E io Q true prs vars k (id + 1) ops (acc ++ [⟨x, rd, wr⟩]) env (wr ++ sto) := rfl

theorem E3m (d : Option Nat) (o : SOp) (ops : List SO) : R P E io Q draw prs vars k id (⟨d, .op o, none⟩ :: ops) acc env sto =
  N P E io Q draw prs vars k id ops acc d (rds id o (svE env)) env sto (J9 id o (svE env) (lsF sto)) := by
 have e0 : A9 sto = lsF sto := rfl
 unfold R N
 simp only [C3m, A42, opW, C4o, e0]
 cases hc : J9 id o (svE env) (lsF sto) with
 | none => rfl
 | some p =>
  obtain ⟨x, wr⟩ := p
  simp only [St.app, ← e0, B3d, R]
  cases d with
  | none => rfl
  | some d => simp only [C9g, B3g]

/-- A guarded step. -/
def Gd (x : AV) (want : Bool) (p q : Prop) : Prop := match x with
 | .t (.v (.bool b)) => if b = want then p else q
 | .tp [] => q
 | _ => False
theorem E30 (want : Bool) (p q : Prop) : Gd (.tp []) want p q = q := rfl
theorem E0v (p q : Prop) : Gd (.t (.v (.bool true))) true p q = p := by simp [Gd]
theorem E12 (p q : Prop) : Gd (.t (.v (.bool false))) false p q = p := by simp [Gd]
theorem D8m (p q : Prop) : Gd (.t (.v (.bool true))) false p q = q := by simp [Gd]
theorem D7j (p q : Prop) : Gd (.t (.v (.bool false))) true p q = q := by simp [Gd]

theorem A8a (d : Option Nat) (s : SK) (t : Nat) (want : Bool) (ops : List SO) : R P E io Q draw prs vars k id (⟨d, s, some (t, want)⟩ :: ops) acc env sto =
  Gd (lk t env) want (R P E io Q draw prs vars k id (⟨d, s, none⟩ :: ops) acc env sto)
   (R P E io Q draw prs vars k (id + 1) ops (if draw then acc ++ [⟨.tp [], [], []⟩] else acc) (match d with | some d => (d, .tp []) :: env | none => env) sto) := by
 unfold R Gd lk
 simp only [C3m, A42]
 cases hx : H1 env t with
 | t y =>
  cases y with
  | v z =>
   cases z with
   | bool b =>
    by_cases h : b = want
    ·have hb : (b == want) = true := by simp [h]
     simp only [hb, if_pos h]
    ·have hb : (b == want) = false := by simpa using h
     simp only [hb, if_neg h, St.app, B3d, List.nil_append]
     cases d with
     | none => rfl
     | some d => simp only [C9g, B3g]
   | _ => rfl
  | sl _ _ => rfl
 | tp l =>
  cases l with
  | nil =>
   simp only [St.app, B3d, List.nil_append]
   cases d with
   | none => rfl
   | some d => simp only [C9g, B3g]
  | cons _ _ => rfl
 | _ => rfl

theorem E0r (d : Option Nat) (s : SK) (t : Nat) (ops : List SO) (h : lk t env = .t (.v (.bool true))) : R P E io Q draw prs vars k id (⟨d, s, some (t, true)⟩ :: ops) acc env sto = R P E io Q draw prs vars k id (⟨d, s, none⟩ :: ops) acc env sto := by
 rw [A8a, h, E0v]
theorem E0q (d : Option Nat) (s : SK) (t : Nat) (ops : List SO) (h : lk t env = .t (.v (.bool false))) : R P E io Q draw prs vars k id (⟨d, s, some (t, false)⟩ :: ops) acc env sto = R P E io Q draw prs vars k id (⟨d, s, none⟩ :: ops) acc env sto := by
 rw [A8a, h, E12]
theorem D8d (d : Nat) (s : SK) (t : Nat) (ops : List SO) (h : lk t env = .t (.v (.bool false))) : R P E io Q draw prs vars k id (⟨some d, s, some (t, true)⟩ :: ops) acc env sto = R P E io Q draw prs vars k (id + 1) ops (if draw then acc ++ [⟨.tp [], [], []⟩] else acc) ((d, .tp []) :: env) sto := by
 rw [A8a, h, D7j]
theorem D7d (d : Nat) (s : SK) (t : Nat) (ops : List SO) (h : lk t env = .t (.v (.bool true))) : R P E io Q draw prs vars k id (⟨some d, s, some (t, false)⟩ :: ops) acc env sto = R P E io Q draw prs vars k (id + 1) ops (if draw then acc ++ [⟨.tp [], [], []⟩] else acc) ((d, .tp []) :: env) sto := by
 rw [A8a, h, D8m]

theorem D8n (d : Nat) (s : SK) (t : Nat) (want : Bool) (ops : List SO) (h : lk t env = .tp []) : R P E io Q draw prs vars k id (⟨some d, s, some (t, want)⟩ :: ops) acc env sto = R P E io Q draw prs vars k (id + 1) ops (if draw then acc ++ [⟨.tp [], [], []⟩] else acc) ((d, .tp []) :: env) sto := by
 rw [A8a, h, E30]
theorem D58 (s : SK) (t : Nat) (want : Bool) (ops : List SO) (h : lk t env = .tp []) : R P E io Q draw prs vars k id (⟨none, s, some (t, want)⟩ :: ops) acc env sto = R P E io Q draw prs vars k (id + 1) ops (if draw then acc ++ [⟨.tp [], [], []⟩] else acc) env sto := by
 rw [A8a, h, E30]
theorem D56 (s : SK) (t : Nat) (ops : List SO) (h : lk t env = .t (.v (.bool false))) : R P E io Q draw prs vars k id (⟨none, s, some (t, true)⟩ :: ops) acc env sto = R P E io Q draw prs vars k (id + 1) ops (if draw then acc ++ [⟨.tp [], [], []⟩] else acc) env sto := by
 rw [A8a, h, D7j]
theorem D60 (s : SK) (t : Nat) (ops : List SO) (h : lk t env = .t (.v (.bool true))) : R P E io Q draw prs vars k id (⟨none, s, some (t, false)⟩ :: ops) acc env sto = R P E io Q draw prs vars k (id + 1) ops (if draw then acc ++ [⟨.tp [], [], []⟩] else acc) env sto := by
 rw [A8a, h, D8m]

theorem E0o {x : Bool} {d : Nat} {s : SK} {t : Nat} {want : Bool} {ops : List SO} (h : lk t env = .t (.v (.bool x))) (ht : x = want → R P E io Q draw prs vars k id (⟨some d, s, none⟩ :: ops) acc env sto)
  (hf : x = (!want) → R P E io Q draw prs vars k (id + 1) ops (if draw then acc ++ [⟨.tp [], [], []⟩] else acc) ((d, .tp []) :: env) sto) : R P E io Q draw prs vars k id (⟨some d, s, some (t, want)⟩ :: ops) acc env sto := by
 rw [A8a, h]
 by_cases hx : x = want
 ·rw [hx]; cases want <;> simp only [E0v, E12] <;> exact ht hx
 ·have hx' : x = (!want) := by cases x <;> cases want <;> simp_all
  rw [hx']; cases want <;> simp only [Bool.not_true, Bool.not_false, D8m, D7j] <;> exact hf hx'

/-- A call: what it asks. -/
def Cl (P : Program) (E : Env) (io : List Nat) (Q : Exit → St → Prop) (draw : Bool) (prs : List (Nat × Nat)) (vars : List Nat) (k : List Kt) (id : Nat) (ops : List SO) (acc : List Rc) (d : Option Nat) (env : List (Nat × AV)) (sto : List (Nat × Ob)) (f : AV) (as : List AV) : Prop :=
 ∃ g first caps, f = .fn g first caps ∧ ∃ r ins outs sn keep ys, CallOk P E (A9 sto) g (first ++ as ++ caps) r ins outs sn keep ys ∧
  R P E io Q draw prs vars k (id + 1) ops (if draw then acc ++ [⟨r, B5 (first ++ as ++ caps) ++ A4 outs ++ sn, outs ++ (if keep then [] else A2f (A9 sto) sn)⟩] else acc) (match d with | some d => (d, r) :: env | none => env) (outs ++ (if keep then [] else A2f (A9 sto) sn) ++ sto)

def evs (env : List (Nat × AV)) : List SV → List AV
 | [] => []
 | x :: l => svE env x :: evs env l

theorem E2b (env : List (Nat × AV)) (l : List SV) : l.map (·.ev (H1 env)) = evs env l := by
 rw [C4o]
 induction l with
 | nil => rfl
 | cons x l ih => simp only [List.map_cons, evs, ih]

theorem E2u (d : Option Nat) (f : SV) (as : List SV) (ops : List SO) : R P E io Q draw prs vars k id (⟨d, .call f as, none⟩ :: ops) acc env sto =
  Cl P E io Q draw prs vars k id ops acc d env sto (svE env f) (evs env as) := by
 have e : f.ev (H1 env) = svE env f := congrFun (C4o env) f
 unfold R Cl
 simp only [C3m, A42, opW, E0z, E2b, e, St.app, B3d, R]
 cases d with
 | none => rfl
 | some d => simp only [C9g, B3g]

theorem Wk.refl {st : Nat → Option Ob} {sn : List Nat} (x : AV) : Wk st sn x x := by
 unfold Wk; split <;> simp_all

theorem Wks.refl {st : Nat → Option Ob} {sn : List Nat} : ∀ l : List AV, Wks st sn l l
 | [] => .nil
 | x :: l => .one (Wk.refl x) (Wks.refl l)

/-- The plainest call: nothing is handed in to be changed, and the answer shares nothing that is still written. -/
theorem A6 {ops : List SO} {d : Option Nat} {g : FuncId} {as : List AV} {r : AV} (h : Meets P E g as [] r []) (hr : R P E io Q draw prs vars k (id + 1) ops (if draw then acc ++ [⟨r, B5 as, []⟩] else acc) (match d with | some d => (d, r) :: env | none => env) sto) :
  Cl P E io Q draw prs vars k id ops acc d env sto (.fn g [] []) as := by
 refine ⟨g, [], [], rfl, r, [], [], [], false, as, ?_, ?_⟩
 ·refine { meets := h, wk := ?_, insOk := by simp [A4], newOk := by simp [A4], snOk := by simp, keepOk := by simp, nd := by simp [A4] }
  simp only [List.nil_append, List.append_nil]
  exact Wks.refl as
 ·simpa [A4, A2f] using hr

/-- The arguments as slots. -/
def D3m : Nat → List AV → List (Nat × AV)
 | _, [] => []
 | i, x :: l => (i, x) :: D3m (i + 1) l

theorem D4a : ∀ (l : List AV) (i : Nat), H1 (D3m i l) = C9z i l
 | [], i => by funext k; rfl
 | x :: l, i => by funext k; simp only [D3m, H1, C9z]; rw [D4a l (i + 1)]

theorem E1w {c : SC} {args : List AV} {ins : List (Nat × Ob)} (h : W P E io Q c [] (D3m 0 args) ins) : c.wp P E io Q ⟨C9z 0 args, A9 ins⟩ := by
 unfold W at h
 rw [D4a] at h
 exact h

mutual
theorem G1.refl {s : Nat → Option Ob} {sn : List Nat} : ∀ x : AV, G1 s sn (fun i => i) x x
 | .t (.v _) => by simp only [G1]
 | .t (.sl _ _) => by simp only [G1]; exact Or.inl trivial
 | .ag cs => by simp only [G1]; exact G2.refl cs
 | .tp cs => by simp only [G1]; exact G2.refl cs
 | .ptr _ _ => by simp only [G1]
 | .ept _ _ _ _ => by simp only [G1]
 | .ipt _ => by simp only [G1]
 | .ifc _ => by simp only [G1]
 | .own _ _ _ _ _ => by simp only [G1]; exact Or.inl trivial
 | .fn f a b => by simp only [G1]; exact ⟨trivial, G2.refl a, G2.refl b⟩
 | .undef => by simp only [G1]
theorem G2.refl {s : Nat → Option Ob} {sn : List Nat} : ∀ l : List AV, G2 s sn (fun i => i) l l
 | [] => by simp only [G2]
 | x :: l => by simp only [G2]; exact ⟨G1.refl x, G2.refl l⟩
end

def D0h (env : List (Nat × AV)) (sto : List (Nat × Ob)) : RV → Option AV
 | .tmp t => some (lk t env)
 | .cell a agg sz => (J9 0 (.load agg sz (.tm a)) (svE env) (lsF sto)).map (·.1)

def B6n (env : List (Nat × AV)) (sto : List (Nat × Ob)) : List RV → Option (List AV)
 | [] => some []
 | v :: l => match D0h env sto v, B6n env sto l with
  | some x, some xs => some (x :: xs)
  | _, _ => none

theorem D4o (env : List (Nat × AV)) (sto : List (Nat × Ob)) (l : List RV) : D20 ⟨H1 env, A9 sto⟩ l = B6n env sto l := by
 have e1 : ∀ v, D0c ⟨H1 env, A9 sto⟩ v = D0h env sto v := by
  intro v
  cases v with
  | tmp t => rfl
  | cell a agg sz => simp only [D0c, D0h, C4o]; rfl
 induction l with
 | nil => rfl
 | cons v l ih =>
  simp only [D20, B6n, e1, ih]
  cases D0h env sto v <;> cases B6n env sto l <;> rfl

/-- The end of a function that leaves nothing. -/
theorem C83 {res : List RV} {r : AV} {e : Exit} (he : e = .ret ∨ e = .normal) (hr : (B6n env sto res).map A8t = some r) (hi : r.ids = []) : A7q [] res r [] e ⟨H1 env, A9 sto⟩ := by
 cases hl : B6n env sto res with
 | none => rw [hl] at hr; cases hr
 | some raws =>
 rw [hl] at hr
 have hp : A8t raws = r := Option.some.inj hr
 refine ⟨by rcases he with rfl | rfl <;> trivial, raws, by rw [D4o]; exact hl, ⟨fun i => i, [], ?_, fun k => ?_, fun k i hk => ?_, by simp, by simp⟩⟩
 ·exact ⟨fun id o ho => by simp [A9] at ho, fun id o ho => by simp [A9] at ho, fun i j oi oj hi => by simp [A9] at hi, by simp⟩
 ·simp only [D38, hp]
  split
  ·exact G1.refl r
  ·simp only [G1]
 ·simp only [D38] at hk
  split at hk
  ·rw [hi] at hk; simp at hk
  ·simp [AV.ids] at hk

/-! ### Loops -/

def A6s (sto : List (Nat × Ob)) (sn : List Nat) (rn : List (Nat × Nat)) (env : List (Nat × AV)) (sto' : List (Nat × Ob)) : List (Nat × AV) → Prop
 | [] => True
 | (k, x) :: l => (G1 (A9 sto) sn (ren rn) (lk k env) x ∧ ∀ i ∈ x.ids, i ∈ A4 sto') ∧ A6s sto sn rn env sto' l

def A1t (sto : List (Nat × Ob)) (sn : List Nat) (rn : List (Nat × Nat)) (sto' : List (Nat × Ob)) : List (Nat × Ob) → Prop
 | [] => True
 | (i, o) :: l => (wkO (A9 sto) sn (ren rn) (ls (ren rn i) sto) o ∧ ∀ j ∈ o.ids, j ∈ A4 sto') ∧ A1t sto sn rn sto' l

theorem C98 {sn : List Nat} {rn : List (Nat × Nat)} {sto' : List (Nat × Ob)} : ∀ {env' : List (Nat × AV)}, A6s sto sn rn env sto' env' → ∀ k, G1 (A9 sto) sn (ren rn) (H1 env k) (H1 env' k) ∧ ∀ i ∈ (H1 env' k).ids, (A9 sto' i).isSome = true
 | [], _, k => by simp [H1, G1, AV.ids]
 | (j, x) :: l, h, k => by
  simp only [A6s] at h
  simp only [H1]
  split
  ·rename_i e; subst e
   exact ⟨h.1.1, fun i hi => D8.2 (h.1.2 i hi)⟩
  ·exact C98 h.2 k

theorem B9k {sn : List Nat} {rn : List (Nat × Nat)} {sto' : List (Nat × Ob)} : ∀ {l : List (Nat × Ob)}, A1t sto sn rn sto' l → ∀ id o, A9 l id = some o → wkO (A9 sto) sn (ren rn) (A9 sto (ren rn id)) o ∧ ∀ j ∈ o.ids, (A9 sto' j).isSome = true
 | [], _, id, o, ho => by simp [A9] at ho
 | (j, x) :: l, h, id, o, ho => by
  simp only [A1t] at h
  simp only [A9] at ho
  split at ho
  ·rename_i e; subst e
   injection ho with ho; subst ho
   exact ⟨h.1.1, fun i hi => D8.2 (h.1.2 i hi)⟩
  ·exact B9k h.2 id o ho

theorem C19 {f : Nat → Nat} : ∀ {l : List Nat}, (l.map f).Nodup → ∀ i j, i ∈ l → j ∈ l → f i = f j → i = j
 | [], _, i, j, hi, _, _ => by cases hi
 | x :: l, h, i, j, hi, hj, e => by
  simp only [List.map_cons, List.nodup_cons, List.mem_map, not_exists, not_and] at h
  rcases List.mem_cons.1 hi with hi1 | hi1 <;> rcases List.mem_cons.1 hj with hj1 | hj1
  ·rw [hi1, hj1]
  ·subst hi1; exact absurd e.symm (h.1 j hj1)
  ·subst hj1; exact absurd e (h.1 i hi1)
  ·exact C19 h.2 i j hi1 hj1 e

theorem B5z {l : List (Nat × Ob)} {i : Nat} {o : Ob} (h : A9 l i = some o) : i ∈ A4 l := D8.1 (by rw [h]; rfl)

/-- A lesser state, as lists. -/
theorem C0t {env' : List (Nat × AV)} {sto' : List (Nat × Ob)} (rn : List (Nat × Nat)) (sn : List Nat) (h1 : A6s sto sn rn env sto' env') (h2 : A1t sto sn rn sto' sto') (h3 : ((A4 sto').map (ren rn)).Nodup)
  (h4 : ∀ i ∈ sn, 100 ≤ i ∧ A2d (A9 sto i) = true ∧ ∀ j ∈ A4 sto', ren rn j ≠ i) (h5 : ∀ i ∈ io, ren rn i = i) (h6 : ∀ i ∈ A4 sto', ren rn i ∈ io → i = ren rn i) :
  Sub io ⟨H1 env, A9 sto⟩ ⟨H1 env', A9 sto'⟩ :=
 ⟨ren rn, sn, ⟨fun id o ho => (B9k h2 id o ho).1, fun id o ho => (B9k h2 id o ho).2,
  fun i j oi oj hi hj _ _ e => C19 h3 i j (B5z hi) (B5z hj) e,
  fun i hi => ⟨(h4 i hi).1, (h4 i hi).2.1, fun id o ho _ => (h4 i hi).2.2 id (B5z ho)⟩⟩,
  fun k => (C98 h1 k).1, fun k => (C98 h1 k).2, h5, fun id hid => h6 id (D8.1 hid)⟩

theorem D8r (r : St → Prop) : B P E io Q (.lp r :: k) .ret env sto = B P E io Q k .ret env sto := rfl
theorem D5b (r : St → Prop) (i : Nat) : B P E io Q (.lp r :: k) (.exit i) env sto = B P E io Q k (.exit i) env sto := rfl

/-- What the body of a loop comes to: a round with a lesser measure. -/
def Rd (io : List Nat) {ι : Type} (m : ι → Nat) (p : ι → Prop) (ev : ι → List (Nat × AV)) (st : ι → List (Nat × Ob)) (i : ι) : St → Prop :=
 fun s => ∃ j, m j < m i ∧ p j ∧ Sub io s ⟨H1 (ev j), A9 (st j)⟩

theorem E3l (r : St → Prop) : B P E io Q (.lp r :: k) .normal env sto = r ⟨H1 env, A9 sto⟩ := rfl

/-- A loop: states by an index, a measure that falls. -/
theorem C8 {a : SC} {ι : Type} (m : ι → Nat) (p : ι → Prop) (ev : ι → List (Nat × AV)) (st : ι → List (Nat × Ob)) (i0 : ι) (h0 : p i0) (hs : Sub io ⟨H1 env, A9 sto⟩ ⟨H1 (ev i0), A9 (st i0)⟩)
  (hb : ∀ i, p i → W P E io Q a (.lp (Rd io m p ev st i) :: k) (ev i) (st i)) : W P E io Q (.loop a) k env sto := by
 unfold W
 simp only [SC.wp]
 refine ⟨fun n s => ∃ i, m i = n ∧ p i ∧ s = ⟨H1 (ev i), A9 (st i)⟩, ⟨m i0, _, hs, i0, rfl, h0, rfl⟩, ?_⟩
 rintro n s ⟨i, rfl, hp, rfl⟩
 have := hb i hp
 unfold W at this
 have e : KW P E io Q (.lp (Rd io m p ev st i) :: k) = fun e s' => match e with
   | .normal => ∃ j t, j < m i ∧ Sub io s' t ∧ ∃ i, m i = j ∧ p i ∧ t = ⟨H1 (ev i), A9 (st i)⟩
   | e => KW P E io Q k e s' := by
  funext e s
  cases e with
  | normal =>
   simp only [KW, Rd]
   apply propext
   constructor
   ·rintro ⟨j, h1, h2, h3⟩; exact ⟨m j, _, h1, h3, j, rfl, h2, rfl⟩
   ·rintro ⟨_, _, h1, h3, j, rfl, h2, rfl⟩; exact ⟨j, h1, h2, h3⟩
  | _ => rfl
 rw [e] at this
 exact this

theorem C3 {ι : Type} {m : ι → Nat} {p : ι → Prop} {ev : ι → List (Nat × AV)} {st : ι → List (Nat × Ob)} {i : ι} (j : ι) (h1 : m j < m i) (h2 : p j) (h3 : Sub io ⟨H1 env, A9 sto⟩ ⟨H1 (ev j), A9 (st j)⟩) :
  Rd io m p ev st i ⟨H1 env, A9 sto⟩ := ⟨j, h1, h2, h3⟩

/-! ### A range over a function that hands out a text's parts -/

/-- What a round comes to. -/
def Rg (P : Program) (E : Env) (io : List Nat) (Q : Exit → St → Prop) (k : List Kt) (xs : List Value) (i0 : Nat) (pr : Nat → Prop) (ev : Nat → List (Nat × AV)) (so : Nat → List (Nat × Ob)) (j : Nat) (r : ByteArray) : Exit → St → Prop
 | .normal, s => pr (j + 1) ∧ Sub io ⟨H1 (ev j), s.sto⟩ ⟨H1 (ev (j + 1)), A9 ((i0, .box [.t (.v (.string r))]) :: so (j + 1))⟩
 | .ret, s => KW P E io Q k .ret ⟨H1 (ev j), s.sto⟩
 | .exit i, s => KW P E io Q k (.exit i) ⟨H1 (ev j), s.sto⟩
 | _, _ => False

/-- The loop's variable is set; then the body. -/
def Ra (P : Program) (E : Env) (io : List Nat) (Q : Exit → St → Prop) (k : List Kt) (xs : List Value) (i0 : Nat) (pr : Nat → Prop) (ev : Nat → List (Nat × AV)) (so : Nat → List (Nat × Ob)) (j : Nat) (r : ByteArray) (body : SC) : Exit → St → Prop :=
 fun e s => e = .normal ∧ body.wp P E io (Rg P E io Q k xs i0 pr ev so j r) s

theorem D52 (xs : List Value) (i0 : Nat) (pr : Nat → Prop) (ev : Nat → List (Nat × AV)) (so : Nat → List (Nat × Ob)) (j : Nat) (r : ByteArray) (body : SC) :
  Ra P E io Q k xs i0 pr ev so j r body .normal ⟨H1 env, A9 sto⟩ = W P E io (Rg P E io Q k xs i0 pr ev so j r) body [] env sto := by
 apply propext
 constructor
 ·exact fun h => h.2
 ·exact fun h => ⟨rfl, h⟩
theorem E1i (xs : List Value) (i0 : Nat) (pr : Nat → Prop) (ev : Nat → List (Nat × AV)) (so : Nat → List (Nat × Ob)) (j : Nat) (r : ByteArray) :
  Rg P E io Q k xs i0 pr ev so j r .ret ⟨H1 env, A9 sto⟩ = B P E io Q k .ret (ev j) sto := rfl
theorem E0n (xs : List Value) (i0 : Nat) (pr : Nat → Prop) (ev : Nat → List (Nat × AV)) (so : Nat → List (Nat × Ob)) (j i : Nat) (r : ByteArray) :
  Rg P E io Q k xs i0 pr ev so j r (.exit i) ⟨H1 env, A9 sto⟩ = B P E io Q k (.exit i) (ev j) sto := rfl

theorem B05 {xs : List AV} (h : B5 xs = []) : Shut xs [] := ⟨fun i hi => by rw [h] at hi; simp at hi, fun id o ho => by simp [A9] at ho, fun id o ho => by simp [A9] at ho⟩
end
theorem E3o {α : Type} (x : α) : List.replicate 1 x = [x] := rfl
theorem E3p {α : Type} (x : α) : List.replicate 2 x = [x, x] := rfl
theorem E3r {α : Type} (x : α) : List.replicate 3 x = [x, x, x] := rfl
theorem E3j {α : Type} (x : α) : List.replicate 4 x = [x, x, x, x] := rfl
theorem E3g {α : Type} (x : α) : List.replicate 5 x = [x, x, x, x, x] := rfl
attribute [go_sem] E3o E3p E3r E3j E3g List.set_cons_zero List.set_cons_succ
attribute [go_sem] D52 E1i E0n E3l D8r D5b E2z D9p E2a E3c E2q E23 D3d D29 D5j E36 D3i E3b D5e D66 D1x D1s E3f E2c E3m N_f E3i N_t E3k E0r E0q D8d D7d D8n D56 D60 D58 E2u evs
 E21 E0h C17 B69 svE E0d C2j D3m J9 Q7 B0b C5r AV.padd B4v D0q unV eqC C6e D6b AV.isStr AV.asOwn AV.asTree AV.isNil B1 B3 B3w B9w C0c splice AV.cells AV.one AV.tree C2u D0h B6n A8t
 if_true if_false Option.isNone_none Option.isNone_some decide_true decide_false Bool.and_true Bool.true_and Bool.and_false Bool.false_and Bool.or_true Bool.true_or Bool.or_false Bool.false_or Bool.not_true Bool.not_false List.all_cons List.all_nil and_self and_true true_and
 List.cons_append List.nil_append List.append_nil Option.map_some Option.map_none List.drop_zero List.drop_succ_cons List.take_succ_cons List.take_zero List.getElem?_cons_zero List.getElem?_cons_succ List.map_cons List.map_nil List.length_cons List.length_nil Bool.false_eq_true not_true_eq_false not_false_eq_true Bool.true_eq_false Nat.zero_add

attribute [go_sem] Nat.reduceEqDiff Nat.reduceAdd Nat.reduceLeDiff reduceCtorEq Nat.reduceLT Int.reduceLT Int.reduceLE Int.reduceEq Int.reduceToNat Nat.reduceMul
attribute [go_sem ↓] reduceIte

end Go.Sx
