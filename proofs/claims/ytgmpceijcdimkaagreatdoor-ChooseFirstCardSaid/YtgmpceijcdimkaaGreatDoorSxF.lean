/- The walk over slim code, as rewriting: what is left to do is a list, slots are a list. No statement of a seat is proved here. -/
import Derived.Test.YtgmpceijcdimkaaGreatDoorSxE
set_option linter.unusedSimpArgs false
set_option linter.unusedVariables false
namespace Go.Sx

abbrev U (n : Int) : AV := .t (.v (.int .u64 n))
abbrev I (n : Int) : AV := .t (.v (.int .i64 n))
abbrev Bo (b : Bool) : AV := .t (.v (.bool b))

/-- What is left to do. -/
inductive Kt where
  | code (c : SC)
  | blk (id : Nat)
  | lp (r : St → Prop)

section
variable (P : Program) (E : Env) (io : List Nat) (Q : Exit → St → Prop)

def KW : List Kt → Exit → St → Prop
  | [], e, s => Q e s
  | .code c :: k, .normal, s => c.wp P E io (KW k) s
  | .code _ :: k, e, s => KW k e s
  | .blk id :: k, .exit i, s => if i = id then KW k .normal s else KW k (.exit i) s
  | .blk _ :: k, e, s => KW k e s
  | .lp r :: _, .normal, s => r s
  | .lp _ :: k, e, s => KW k e s

/-- The code in hand, slots and objects as lists. -/
def W (c : SC) (k : List Kt) (env : List (Nat × AV)) (sto : List (Nat × Ob)) : Prop := c.wp P E io (KW P E io Q k) ⟨envOf env, stoOf sto⟩

/-- Behind the code in hand. -/
def B (k : List Kt) (e : Exit) (env : List (Nat × AV)) (sto : List (Nat × Ob)) : Prop := KW P E io Q k e ⟨envOf env, stoOf sto⟩

def R (draw : Bool) (prs : List (Nat × Nat)) (vars : List Nat) (k : List Kt) (id : Nat) (ops : List SO) (acc : List Rc) (env : List (Nat × AV)) (sto : List (Nat × Ob)) : Prop :=
  opsW P E draw id ops acc ⟨envOf env, stoOf sto⟩ fun acc st' => okPairs prs acc ∧ KW P E io Q k .normal ⟨keepE vars st'.env, st'.sto⟩
end

/-- Slots and objects, asked for. -/
def lk (k : Nat) (env : List (Nat × AV)) : AV := envOf env k
def ls (k : Nat) (sto : List (Nat × Ob)) : Option Ob := stoOf sto k
theorem lk_nil (k : Nat) : lk k [] = .undef := rfl
theorem lk_cons (k i : Nat) (x : AV) (l : List (Nat × AV)) : lk k ((i, x) :: l) = if k = i then x else lk k l := rfl
theorem ls_nil (k : Nat) : ls k [] = none := rfl
theorem ls_cons (k i : Nat) (x : Ob) (l : List (Nat × Ob)) : ls k ((i, x) :: l) = if k = i then some x else ls k l := rfl
def svE (env : List (Nat × AV)) : SV → AV
  | .tm k => lk k env
  | .c x => x
theorem svE_eq (env : List (Nat × AV)) : (fun x : SV => x.ev (envOf env)) = svE env := by
  funext x; cases x <;> rfl
def lsF (sto : List (Nat × Ob)) : Nat → Option Ob := fun k => ls k sto
theorem lsF_app (sto : List (Nat × Ob)) (k : Nat) : lsF sto k = ls k sto := rfl

/-- Some slots of a list. -/
def keepL (env : List (Nat × AV)) : List Nat → List (Nat × AV)
  | [] => []
  | k :: l => (k, lk k env) :: keepL env l

theorem keepL_eq (env : List (Nat × AV)) (vars : List Nat) : keepE vars (envOf env) = envOf (keepL env vars) := by
  unfold keepE
  congr 1
  induction vars with
  | nil => rfl
  | cons k l ih => simp [keepL, ih, lk]

theorem envOf_cons (d : Nat) (x : AV) (env : List (Nat × AV)) : upd (envOf env) d x = envOf ((d, x) :: env) := by
  funext k; simp [upd, envOf]

theorem over_stoOf (l : List (Nat × Ob)) (sto : List (Nat × Ob)) : over l (stoOf sto) = stoOf (l ++ sto) := by
  funext k
  unfold over
  induction l with
  | nil => simp [stoOf]
  | cons p l ih =>
    obtain ⟨i, o⟩ := p
    simp only [stoOf, List.cons_append]
    by_cases h : k = i
    · simp [h]
    · simp only [if_neg h]; exact ih

section
variable {P : Program} {E : Env} {io : List Nat} {Q : Exit → St → Prop} {k : List Kt} {env : List (Nat × AV)} {sto : List (Nat × Ob)}

theorem W_seq (a b : SC) : W P E io Q (.seq a b) k env sto = W P E io Q a (.code b :: k) env sto := by
  unfold W; simp only [SC.wp]; congr 1; funext e s; cases e <;> rfl

theorem W_block (id : Nat) (a : SC) : W P E io Q (.block id a) k env sto = W P E io Q a (.blk id :: k) env sto := by
  unfold W; simp only [SC.wp]; congr 1; funext e s; cases e <;> rfl

theorem W_skip : W P E io Q .skip k env sto = B P E io Q k .normal env sto := rfl
theorem W_ret : W P E io Q .ret k env sto = B P E io Q k .ret env sto := rfl
theorem W_exit (id : Nat) : W P E io Q (.exit id) k env sto = B P E io Q k (.exit id) env sto := rfl
theorem B_nil (e : Exit) : B P E io Q [] e env sto = Q e ⟨envOf env, stoOf sto⟩ := rfl
theorem B_code (c : SC) : B P E io Q (.code c :: k) .normal env sto = W P E io Q c k env sto := rfl
theorem B_code_ret (c : SC) : B P E io Q (.code c :: k) .ret env sto = B P E io Q k .ret env sto := rfl
theorem B_code_exit (c : SC) (i : Nat) : B P E io Q (.code c :: k) (.exit i) env sto = B P E io Q k (.exit i) env sto := rfl
theorem B_blk_ret (id : Nat) : B P E io Q (.blk id :: k) .ret env sto = B P E io Q k .ret env sto := rfl
theorem B_blk (id : Nat) : B P E io Q (.blk id :: k) .normal env sto = B P E io Q k .normal env sto := rfl
theorem B_blk_exit (id i : Nat) : B P E io Q (.blk id :: k) (.exit i) env sto = if i = id then B P E io Q k .normal env sto else B P E io Q k (.exit i) env sto := by
  unfold B; simp only [KW]

/-- A test whose outcome is known. -/
def T2 (x : AV) (p q : Prop) : Prop := match x with
  | .t (.v (.bool b)) => (b = true → p) ∧ (b = false → q)
  | _ => False
theorem T2_true (p q : Prop) : T2 (.t (.v (.bool true))) p q = p := by simp [T2]
theorem T2_false (p q : Prop) : T2 (.t (.v (.bool false))) p q = q := by simp [T2]

theorem W_cond (c : SV) (a b : SC) : W P E io Q (.cond c a b) k env sto = T2 (svE env c) (W P E io Q a k env sto) (W P E io Q b k env sto) := by
  have e : c.ev (envOf env) = svE env c := congrFun (svE_eq env) c
  unfold W T2; simp only [SC.wp, e]
  generalize svE env c = x
  cases x with
  | t y => cases y with
    | v z => cases z <;> rfl
    | sl _ _ => rfl
  | _ => rfl

theorem W_cond_t (c : SV) (a b : SC) (h : svE env c = .t (.v (.bool true))) : W P E io Q (.cond c a b) k env sto = W P E io Q a k env sto := by
  rw [W_cond, h, T2_true]

theorem W_cond_f (c : SV) (a b : SC) (h : svE env c = .t (.v (.bool false))) : W P E io Q (.cond c a b) k env sto = W P E io Q b k env sto := by
  rw [W_cond, h, T2_false]

theorem W_cond_ct (a b : SC) : W P E io Q (.cond (.c (.t (.v (.bool true)))) a b) k env sto = W P E io Q a k env sto := W_cond_t _ a b rfl
theorem W_cond_cf (a b : SC) : W P E io Q (.cond (.c (.t (.v (.bool false)))) a b) k env sto = W P E io Q b k env sto := W_cond_f _ a b rfl

/-- A test whose outcome hangs on what came in. -/
theorem W_split {x : Bool} {c : SV} {a b : SC} (h : svE env c = .t (.v (.bool x))) (ht : x = true → W P E io Q a k env sto) (hf : x = false → W P E io Q b k env sto) : W P E io Q (.cond c a b) k env sto := by
  rw [W_cond, h]; exact ⟨ht, hf⟩

theorem W_reg (base : Nat) (ops : List SO) (draw : Bool) (prs : List (Nat × Nat)) (vars : List Nat) : W P E io Q (.reg base ops draw prs vars) k env sto = R P E io Q draw prs vars k base ops [] env sto := rfl

theorem R_nil (draw : Bool) (prs : List (Nat × Nat)) (vars : List Nat) (id : Nat) (acc : List Rc) : R P E io Q draw prs vars k id [] acc env sto = (okPairs prs acc ∧ B P E io Q k .normal (keepL env vars) sto) := by
  unfold R B; simp only [opsW]; rw [keepL_eq]

theorem R_nil0 (draw : Bool) (vars : List Nat) (id : Nat) (acc : List Rc) : R P E io Q draw [] vars k id [] acc env sto = B P E io Q k .normal (keepL env vars) sto := by
  rw [R_nil]; simp [okPairs]

theorem okp0 {acc : List Rc} : okPairs [] acc := by simp [okPairs]
theorem okp {i j : Nat} {l : List (Nat × Nat)} {acc : List Rc} {a b : Rc} (h1 : acc[i]? = some a) (h2 : acc[j]? = some b) (h3 : apartR a b = true) (h : okPairs l acc) : okPairs ((i, j) :: l) acc := by
  intro p hp
  rcases List.mem_cons.1 hp with rfl | hp
  · exact ⟨a, b, h1, h2, h3⟩
  · exact h p hp
theorem R_fin {draw : Bool} {prs : List (Nat × Nat)} {vars : List Nat} {id : Nat} {acc : List Rc} (h1 : okPairs prs acc) (h2 : B P E io Q k .normal (keepL env vars) sto) : R P E io Q draw prs vars k id [] acc env sto := by
  rw [R_nil]; exact ⟨h1, h2⟩

/-- The step behind an answer that is known. -/
def N (P : Program) (E : Env) (io : List Nat) (Q : Exit → St → Prop) (draw : Bool) (prs : List (Nat × Nat)) (vars : List Nat) (k : List Kt) (id : Nat) (ops : List SO) (acc : List Rc) (d : Option Nat) (rd : List Nat) (env : List (Nat × AV)) (sto : List (Nat × Ob)) : Option (AV × List (Nat × Ob)) → Prop
  | some (x, wr) => R P E io Q draw prs vars k (id + 1) ops (if draw then acc ++ [⟨x, rd, wr⟩] else acc) (match d with | some d => (d, x) :: env | none => env) (wr ++ sto)
  | none => False

variable {draw : Bool} {prs : List (Nat × Nat)} {vars : List Nat} {id : Nat} {acc : List Rc}

theorem N_f (ops : List SO) (d : Nat) (rd : List Nat) (x : AV) (wr : List (Nat × Ob)) : N P E io Q false prs vars k id ops acc (some d) rd env sto (some (x, wr)) = R P E io Q false prs vars k (id + 1) ops acc ((d, x) :: env) (wr ++ sto) := rfl
theorem N_f0 (ops : List SO) (rd : List Nat) (x : AV) (wr : List (Nat × Ob)) : N P E io Q false prs vars k id ops acc none rd env sto (some (x, wr)) = R P E io Q false prs vars k (id + 1) ops acc env (wr ++ sto) := rfl
theorem N_t (ops : List SO) (d : Nat) (rd : List Nat) (x : AV) (wr : List (Nat × Ob)) : N P E io Q true prs vars k id ops acc (some d) rd env sto (some (x, wr)) = R P E io Q true prs vars k (id + 1) ops (acc ++ [⟨x, rd, wr⟩]) ((d, x) :: env) (wr ++ sto) := rfl
theorem N_t0 (ops : List SO) (rd : List Nat) (x : AV) (wr : List (Nat × Ob)) : N P E io Q true prs vars k id ops acc none rd env sto (some (x, wr)) = R P E io Q true prs vars k (id + 1) ops (acc ++ [⟨x, rd, wr⟩]) env (wr ++ sto) := rfl

theorem R_op (d : Option Nat) (o : SOp) (ops : List SO) : R P E io Q draw prs vars k id (⟨d, .op o, none⟩ :: ops) acc env sto =
    N P E io Q draw prs vars k id ops acc d (rds id o (svE env)) env sto (core id o (svE env) (lsF sto)) := by
  have e0 : stoOf sto = lsF sto := rfl
  unfold R N
  simp only [opsW, wantedA, opW, svE_eq, e0]
  cases hc : core id o (svE env) (lsF sto) with
  | none => rfl
  | some p =>
    obtain ⟨x, wr⟩ := p
    simp only [St.app, ← e0, over_stoOf, R]
    cases d with
    | none => rfl
    | some d => simp only [putE, envOf_cons]

/-- A guarded step. -/
def Gd (x : AV) (want : Bool) (p q : Prop) : Prop := match x with
  | .t (.v (.bool b)) => if b = want then p else q
  | .tp [] => q
  | _ => False
theorem Gd_u (want : Bool) (p q : Prop) : Gd (.tp []) want p q = q := rfl
theorem Gd_tt (p q : Prop) : Gd (.t (.v (.bool true))) true p q = p := by simp [Gd]
theorem Gd_ff (p q : Prop) : Gd (.t (.v (.bool false))) false p q = p := by simp [Gd]
theorem Gd_tf (p q : Prop) : Gd (.t (.v (.bool true))) false p q = q := by simp [Gd]
theorem Gd_ft (p q : Prop) : Gd (.t (.v (.bool false))) true p q = q := by simp [Gd]

theorem R_guard (d : Option Nat) (s : SK) (t : Nat) (want : Bool) (ops : List SO) : R P E io Q draw prs vars k id (⟨d, s, some (t, want)⟩ :: ops) acc env sto =
    Gd (lk t env) want (R P E io Q draw prs vars k id (⟨d, s, none⟩ :: ops) acc env sto)
      (R P E io Q draw prs vars k (id + 1) ops (if draw then acc ++ [⟨.tp [], [], []⟩] else acc) (match d with | some d => (d, .tp []) :: env | none => env) sto) := by
  unfold R Gd lk
  simp only [opsW, wantedA]
  cases hx : envOf env t with
  | t y =>
    cases y with
    | v z =>
      cases z with
      | bool b =>
        by_cases h : b = want
        · have hb : (b == want) = true := by simp [h]
          simp only [hb, if_pos h]
        · have hb : (b == want) = false := by simpa using h
          simp only [hb, if_neg h, St.app, over_stoOf, List.nil_append]
          cases d with
          | none => rfl
          | some d => simp only [putE, envOf_cons]
      | _ => rfl
    | sl _ _ => rfl
  | tp l =>
    cases l with
    | nil =>
      simp only [St.app, over_stoOf, List.nil_append]
      cases d with
      | none => rfl
      | some d => simp only [putE, envOf_cons]
    | cons _ _ => rfl
  | _ => rfl

theorem R_run_t (d : Option Nat) (s : SK) (t : Nat) (ops : List SO) (h : lk t env = .t (.v (.bool true))) : R P E io Q draw prs vars k id (⟨d, s, some (t, true)⟩ :: ops) acc env sto = R P E io Q draw prs vars k id (⟨d, s, none⟩ :: ops) acc env sto := by
  rw [R_guard, h, Gd_tt]
theorem R_run_f (d : Option Nat) (s : SK) (t : Nat) (ops : List SO) (h : lk t env = .t (.v (.bool false))) : R P E io Q draw prs vars k id (⟨d, s, some (t, false)⟩ :: ops) acc env sto = R P E io Q draw prs vars k id (⟨d, s, none⟩ :: ops) acc env sto := by
  rw [R_guard, h, Gd_ff]
theorem R_pass_t (d : Nat) (s : SK) (t : Nat) (ops : List SO) (h : lk t env = .t (.v (.bool false))) : R P E io Q draw prs vars k id (⟨some d, s, some (t, true)⟩ :: ops) acc env sto = R P E io Q draw prs vars k (id + 1) ops (if draw then acc ++ [⟨.tp [], [], []⟩] else acc) ((d, .tp []) :: env) sto := by
  rw [R_guard, h, Gd_ft]
theorem R_pass_f (d : Nat) (s : SK) (t : Nat) (ops : List SO) (h : lk t env = .t (.v (.bool true))) : R P E io Q draw prs vars k id (⟨some d, s, some (t, false)⟩ :: ops) acc env sto = R P E io Q draw prs vars k (id + 1) ops (if draw then acc ++ [⟨.tp [], [], []⟩] else acc) ((d, .tp []) :: env) sto := by
  rw [R_guard, h, Gd_tf]

theorem R_pass_u (d : Nat) (s : SK) (t : Nat) (want : Bool) (ops : List SO) (h : lk t env = .tp []) : R P E io Q draw prs vars k id (⟨some d, s, some (t, want)⟩ :: ops) acc env sto = R P E io Q draw prs vars k (id + 1) ops (if draw then acc ++ [⟨.tp [], [], []⟩] else acc) ((d, .tp []) :: env) sto := by
  rw [R_guard, h, Gd_u]
theorem R_pass0_u (s : SK) (t : Nat) (want : Bool) (ops : List SO) (h : lk t env = .tp []) : R P E io Q draw prs vars k id (⟨none, s, some (t, want)⟩ :: ops) acc env sto = R P E io Q draw prs vars k (id + 1) ops (if draw then acc ++ [⟨.tp [], [], []⟩] else acc) env sto := by
  rw [R_guard, h, Gd_u]
theorem R_pass0_t (s : SK) (t : Nat) (ops : List SO) (h : lk t env = .t (.v (.bool false))) : R P E io Q draw prs vars k id (⟨none, s, some (t, true)⟩ :: ops) acc env sto = R P E io Q draw prs vars k (id + 1) ops (if draw then acc ++ [⟨.tp [], [], []⟩] else acc) env sto := by
  rw [R_guard, h, Gd_ft]
theorem R_pass0_f (s : SK) (t : Nat) (ops : List SO) (h : lk t env = .t (.v (.bool true))) : R P E io Q draw prs vars k id (⟨none, s, some (t, false)⟩ :: ops) acc env sto = R P E io Q draw prs vars k (id + 1) ops (if draw then acc ++ [⟨.tp [], [], []⟩] else acc) env sto := by
  rw [R_guard, h, Gd_tf]

theorem R_split {x : Bool} {d : Nat} {s : SK} {t : Nat} {want : Bool} {ops : List SO} (h : lk t env = .t (.v (.bool x))) (ht : x = want → R P E io Q draw prs vars k id (⟨some d, s, none⟩ :: ops) acc env sto)
    (hf : x = (!want) → R P E io Q draw prs vars k (id + 1) ops (if draw then acc ++ [⟨.tp [], [], []⟩] else acc) ((d, .tp []) :: env) sto) : R P E io Q draw prs vars k id (⟨some d, s, some (t, want)⟩ :: ops) acc env sto := by
  rw [R_guard, h]
  by_cases hx : x = want
  · rw [hx]; cases want <;> simp only [Gd_tt, Gd_ff] <;> exact ht hx
  · have hx' : x = (!want) := by cases x <;> cases want <;> simp_all
    rw [hx']; cases want <;> simp only [Bool.not_true, Bool.not_false, Gd_tf, Gd_ft] <;> exact hf hx'

/-- A call: what it asks. -/
def Cl (P : Program) (E : Env) (io : List Nat) (Q : Exit → St → Prop) (draw : Bool) (prs : List (Nat × Nat)) (vars : List Nat) (k : List Kt) (id : Nat) (ops : List SO) (acc : List Rc) (d : Option Nat) (env : List (Nat × AV)) (sto : List (Nat × Ob)) (f : AV) (as : List AV) : Prop :=
  ∃ g first caps, f = .fn g first caps ∧ ∃ r ins outs sn keep ys, CallOk P E (stoOf sto) g (first ++ as ++ caps) r ins outs sn keep ys ∧
    R P E io Q draw prs vars k (id + 1) ops (if draw then acc ++ [⟨r, idsL (first ++ as ++ caps) ++ keysOf outs ++ sn, outs ++ (if keep then [] else froze (stoOf sto) sn)⟩] else acc) (match d with | some d => (d, r) :: env | none => env) (outs ++ (if keep then [] else froze (stoOf sto) sn) ++ sto)

def evs (env : List (Nat × AV)) : List SV → List AV
  | [] => []
  | x :: l => svE env x :: evs env l

theorem evs_eq (env : List (Nat × AV)) (l : List SV) : l.map (·.ev (envOf env)) = evs env l := by
  rw [svE_eq]
  induction l with
  | nil => rfl
  | cons x l ih => simp only [List.map_cons, evs, ih]

theorem R_call (d : Option Nat) (f : SV) (as : List SV) (ops : List SO) : R P E io Q draw prs vars k id (⟨d, .call f as, none⟩ :: ops) acc env sto =
    Cl P E io Q draw prs vars k id ops acc d env sto (svE env f) (evs env as) := by
  have e : f.ev (envOf env) = svE env f := congrFun (svE_eq env) f
  unfold R Cl
  simp only [opsW, wantedA, opW, callW, evs_eq, e, St.app, over_stoOf, R]
  cases d with
  | none => rfl
  | some d => simp only [putE, envOf_cons]

theorem Wk.refl {st : Nat → Option Ob} {sn : List Nat} (x : AV) : Wk st sn x x := by
  unfold Wk; split <;> simp_all

theorem Wks.refl {st : Nat → Option Ob} {sn : List Nat} : ∀ l : List AV, Wks st sn l l
  | [] => .nil
  | x :: l => .one (Wk.refl x) (Wks.refl l)

/-- The plainest call: nothing is handed in to be changed, and the answer shares nothing that is still written. -/
theorem Cl_plain {ops : List SO} {d : Option Nat} {g : FuncId} {as : List AV} {r : AV} (h : Meets P E g as [] r []) (hr : R P E io Q draw prs vars k (id + 1) ops (if draw then acc ++ [⟨r, idsL as, []⟩] else acc) (match d with | some d => (d, r) :: env | none => env) sto) :
    Cl P E io Q draw prs vars k id ops acc d env sto (.fn g [] []) as := by
  refine ⟨g, [], [], rfl, r, [], [], [], false, as, ?_, ?_⟩
  · refine { meets := h, wk := ?_, insOk := by simp [keysOf], newOk := by simp [keysOf], snOk := by simp, keepOk := by simp, nd := by simp [keysOf] }
    simp only [List.nil_append, List.append_nil]
    exact Wks.refl as
  · simpa [keysOf, froze] using hr

/-- The arguments as slots. -/
def argL : Nat → List AV → List (Nat × AV)
  | _, [] => []
  | i, x :: l => (i, x) :: argL (i + 1) l

theorem argL_eq : ∀ (l : List AV) (i : Nat), envOf (argL i l) = argE i l
  | [], i => by funext k; rfl
  | x :: l, i => by funext k; simp only [argL, envOf, argE]; rw [argL_eq l (i + 1)]

theorem wstart {c : SC} {args : List AV} {ins : List (Nat × Ob)} (h : W P E io Q c [] (argL 0 args) ins) : c.wp P E io Q ⟨argE 0 args, stoOf ins⟩ := by
  unfold W at h
  rw [argL_eq] at h
  exact h

mutual
theorem wkV.refl {s : Nat → Option Ob} {sn : List Nat} : ∀ x : AV, wkV s sn (fun i => i) x x
  | .t (.v _) => by simp only [wkV]
  | .t (.sl _ _) => by simp only [wkV]; exact Or.inl trivial
  | .ag cs => by simp only [wkV]; exact wkL.refl cs
  | .tp cs => by simp only [wkV]; exact wkL.refl cs
  | .ptr _ _ => by simp only [wkV]
  | .ept _ _ _ _ => by simp only [wkV]
  | .ipt _ => by simp only [wkV]
  | .ifc _ => by simp only [wkV]
  | .own _ _ _ _ _ => by simp only [wkV]; exact Or.inl trivial
  | .fn f a b => by simp only [wkV]; exact ⟨trivial, wkL.refl a, wkL.refl b⟩
  | .undef => by simp only [wkV]
theorem wkL.refl {s : Nat → Option Ob} {sn : List Nat} : ∀ l : List AV, wkL s sn (fun i => i) l l
  | [] => by simp only [wkL]
  | x :: l => by simp only [wkL]; exact ⟨wkV.refl x, wkL.refl l⟩
end

def resL1 (env : List (Nat × AV)) (sto : List (Nat × Ob)) : RV → Option AV
  | .tmp t => some (lk t env)
  | .cell a agg sz => (core 0 (.load agg sz (.tm a)) (svE env) (lsF sto)).map (·.1)

def resL (env : List (Nat × AV)) (sto : List (Nat × Ob)) : List RV → Option (List AV)
  | [] => some []
  | v :: l => match resL1 env sto v, resL env sto l with
    | some x, some xs => some (x :: xs)
    | _, _ => none

theorem resL_eq (env : List (Nat × AV)) (sto : List (Nat × Ob)) (l : List RV) : resA ⟨envOf env, stoOf sto⟩ l = resL env sto l := by
  have e1 : ∀ v, resA1 ⟨envOf env, stoOf sto⟩ v = resL1 env sto v := by
    intro v
    cases v with
    | tmp t => rfl
    | cell a agg sz => simp only [resA1, resL1, svE_eq]; rfl
  induction l with
  | nil => rfl
  | cons v l ih =>
    simp only [resA, resL, e1, ih]
    cases resL1 env sto v <;> cases resL env sto l <;> rfl

/-- The end of a function that leaves nothing. -/
theorem wends {res : List RV} {r : AV} {e : Exit} (he : e = .ret ∨ e = .normal) (hr : (resL env sto res).map packR = some r) (hi : r.ids = []) : SEnds [] res r [] e ⟨envOf env, stoOf sto⟩ := by
  cases hl : resL env sto res with
  | none => rw [hl] at hr; cases hr
  | some raws =>
  rw [hl] at hr
  have hp : packR raws = r := Option.some.inj hr
  refine ⟨by rcases he with rfl | rfl <;> trivial, raws, by rw [resL_eq]; exact hl, ⟨fun i => i, [], ?_, fun k => ?_, fun k i hk => ?_, by simp, by simp⟩⟩
  · exact ⟨fun id o ho => by simp [stoOf] at ho, fun id o ho => by simp [stoOf] at ho, fun i j oi oj hi => by simp [stoOf] at hi, by simp⟩
  · simp only [oneE, hp]
    split
    · exact wkV.refl r
    · simp only [wkV]
  · simp only [oneE] at hk
    split at hk
    · rw [hi] at hk; simp at hk
    · simp [AV.ids] at hk

/-! ### Loops -/

def envS (sto : List (Nat × Ob)) (sn : List Nat) (rn : List (Nat × Nat)) (env : List (Nat × AV)) (sto' : List (Nat × Ob)) : List (Nat × AV) → Prop
  | [] => True
  | (k, x) :: l => (wkV (stoOf sto) sn (ren rn) (lk k env) x ∧ ∀ i ∈ x.ids, i ∈ keysOf sto') ∧ envS sto sn rn env sto' l

def stoS (sto : List (Nat × Ob)) (sn : List Nat) (rn : List (Nat × Nat)) (sto' : List (Nat × Ob)) : List (Nat × Ob) → Prop
  | [] => True
  | (i, o) :: l => (wkO (stoOf sto) sn (ren rn) (ls (ren rn i) sto) o ∧ ∀ j ∈ o.ids, j ∈ keysOf sto') ∧ stoS sto sn rn sto' l

theorem envS_ok {sn : List Nat} {rn : List (Nat × Nat)} {sto' : List (Nat × Ob)} : ∀ {env' : List (Nat × AV)}, envS sto sn rn env sto' env' → ∀ k, wkV (stoOf sto) sn (ren rn) (envOf env k) (envOf env' k) ∧ ∀ i ∈ (envOf env' k).ids, (stoOf sto' i).isSome = true
  | [], _, k => by simp [envOf, wkV, AV.ids]
  | (j, x) :: l, h, k => by
    simp only [envS] at h
    simp only [envOf]
    split
    · rename_i e; subst e
      exact ⟨h.1.1, fun i hi => stoOf_some.2 (h.1.2 i hi)⟩
    · exact envS_ok h.2 k

theorem stoS_ok {sn : List Nat} {rn : List (Nat × Nat)} {sto' : List (Nat × Ob)} : ∀ {l : List (Nat × Ob)}, stoS sto sn rn sto' l → ∀ id o, stoOf l id = some o → wkO (stoOf sto) sn (ren rn) (stoOf sto (ren rn id)) o ∧ ∀ j ∈ o.ids, (stoOf sto' j).isSome = true
  | [], _, id, o, ho => by simp [stoOf] at ho
  | (j, x) :: l, h, id, o, ho => by
    simp only [stoS] at h
    simp only [stoOf] at ho
    split at ho
    · rename_i e; subst e
      injection ho with ho; subst ho
      exact ⟨h.1.1, fun i hi => stoOf_some.2 (h.1.2 i hi)⟩
    · exact stoS_ok h.2 id o ho

theorem nodup_inj {f : Nat → Nat} : ∀ {l : List Nat}, (l.map f).Nodup → ∀ i j, i ∈ l → j ∈ l → f i = f j → i = j
  | [], _, i, j, hi, _, _ => by cases hi
  | x :: l, h, i, j, hi, hj, e => by
    simp only [List.map_cons, List.nodup_cons, List.mem_map, not_exists, not_and] at h
    rcases List.mem_cons.1 hi with hi1 | hi1 <;> rcases List.mem_cons.1 hj with hj1 | hj1
    · rw [hi1, hj1]
    · subst hi1; exact absurd e.symm (h.1 j hj1)
    · subst hj1; exact absurd e (h.1 i hi1)
    · exact nodup_inj h.2 i j hi1 hj1 e

theorem in_keys {l : List (Nat × Ob)} {i : Nat} {o : Ob} (h : stoOf l i = some o) : i ∈ keysOf l := stoOf_some.1 (by rw [h]; rfl)

/-- A lesser state, as lists. -/
theorem subL {env' : List (Nat × AV)} {sto' : List (Nat × Ob)} (rn : List (Nat × Nat)) (sn : List Nat) (h1 : envS sto sn rn env sto' env') (h2 : stoS sto sn rn sto' sto') (h3 : ((keysOf sto').map (ren rn)).Nodup)
    (h4 : ∀ i ∈ sn, 100 ≤ i ∧ isRow (stoOf sto i) = true ∧ ∀ j ∈ keysOf sto', ren rn j ≠ i) (h5 : ∀ i ∈ io, ren rn i = i) (h6 : ∀ i ∈ keysOf sto', ren rn i ∈ io → i = ren rn i) :
    Sub io ⟨envOf env, stoOf sto⟩ ⟨envOf env', stoOf sto'⟩ :=
  ⟨ren rn, sn, ⟨fun id o ho => (stoS_ok h2 id o ho).1, fun id o ho => (stoS_ok h2 id o ho).2,
    fun i j oi oj hi hj _ _ e => nodup_inj h3 i j (in_keys hi) (in_keys hj) e,
    fun i hi => ⟨(h4 i hi).1, (h4 i hi).2.1, fun id o ho _ => (h4 i hi).2.2 id (in_keys ho)⟩⟩,
    fun k => (envS_ok h1 k).1, fun k => (envS_ok h1 k).2, h5, fun id hid => h6 id (stoOf_some.1 hid)⟩

theorem B_lp_ret (r : St → Prop) : B P E io Q (.lp r :: k) .ret env sto = B P E io Q k .ret env sto := rfl
theorem B_lp_exit (r : St → Prop) (i : Nat) : B P E io Q (.lp r :: k) (.exit i) env sto = B P E io Q k (.exit i) env sto := rfl

/-- What the body of a loop comes to: a round with a lesser measure. -/
def Rd (io : List Nat) {ι : Type} (m : ι → Nat) (p : ι → Prop) (ev : ι → List (Nat × AV)) (st : ι → List (Nat × Ob)) (i : ι) : St → Prop :=
  fun s => ∃ j, m j < m i ∧ p j ∧ Sub io s ⟨envOf (ev j), stoOf (st j)⟩

theorem B_lp (r : St → Prop) : B P E io Q (.lp r :: k) .normal env sto = r ⟨envOf env, stoOf sto⟩ := rfl

/-- A loop: states by an index, a measure that falls. -/
theorem W_loop {a : SC} {ι : Type} (m : ι → Nat) (p : ι → Prop) (ev : ι → List (Nat × AV)) (st : ι → List (Nat × Ob)) (i0 : ι) (h0 : p i0) (hs : Sub io ⟨envOf env, stoOf sto⟩ ⟨envOf (ev i0), stoOf (st i0)⟩)
    (hb : ∀ i, p i → W P E io Q a (.lp (Rd io m p ev st i) :: k) (ev i) (st i)) : W P E io Q (.loop a) k env sto := by
  unfold W
  simp only [SC.wp]
  refine ⟨fun n s => ∃ i, m i = n ∧ p i ∧ s = ⟨envOf (ev i), stoOf (st i)⟩, ⟨m i0, _, hs, i0, rfl, h0, rfl⟩, ?_⟩
  rintro n s ⟨i, rfl, hp, rfl⟩
  have := hb i hp
  unfold W at this
  have e : KW P E io Q (.lp (Rd io m p ev st i) :: k) = fun e s' => match e with
      | .normal => ∃ j t, j < m i ∧ Sub io s' t ∧ ∃ i, m i = j ∧ p i ∧ t = ⟨envOf (ev i), stoOf (st i)⟩
      | e => KW P E io Q k e s' := by
    funext e s
    cases e with
    | normal =>
      simp only [KW, Rd]
      apply propext
      constructor
      · rintro ⟨j, h1, h2, h3⟩; exact ⟨m j, _, h1, h3, j, rfl, h2, rfl⟩
      · rintro ⟨_, _, h1, h3, j, rfl, h2, rfl⟩; exact ⟨j, h1, h2, h3⟩
    | _ => rfl
  rw [e] at this
  exact this

theorem rd_of {ι : Type} {m : ι → Nat} {p : ι → Prop} {ev : ι → List (Nat × AV)} {st : ι → List (Nat × Ob)} {i : ι} (j : ι) (h1 : m j < m i) (h2 : p j) (h3 : Sub io ⟨envOf env, stoOf sto⟩ ⟨envOf (ev j), stoOf (st j)⟩) :
    Rd io m p ev st i ⟨envOf env, stoOf sto⟩ := ⟨j, h1, h2, h3⟩

/-! ### A range over a function that hands out a text's parts -/

/-- What a round comes to. -/
def Rg (P : Program) (E : Env) (io : List Nat) (Q : Exit → St → Prop) (k : List Kt) (xs : List Value) (i0 : Nat) (pr : Nat → Prop) (ev : Nat → List (Nat × AV)) (so : Nat → List (Nat × Ob)) (j : Nat) (r : ByteArray) : Exit → St → Prop
  | .normal, s => pr (j + 1) ∧ Sub io ⟨envOf (ev j), s.sto⟩ ⟨envOf (ev (j + 1)), stoOf ((i0, .box [.t (.v (.string r))]) :: so (j + 1))⟩
  | .ret, s => KW P E io Q k .ret ⟨envOf (ev j), s.sto⟩
  | .exit i, s => KW P E io Q k (.exit i) ⟨envOf (ev j), s.sto⟩
  | _, _ => False

/-- The loop's variable is set; then the body. -/
def Ra (P : Program) (E : Env) (io : List Nat) (Q : Exit → St → Prop) (k : List Kt) (xs : List Value) (i0 : Nat) (pr : Nat → Prop) (ev : Nat → List (Nat × AV)) (so : Nat → List (Nat × Ob)) (j : Nat) (r : ByteArray) (body : SC) : Exit → St → Prop :=
  fun e s => e = .normal ∧ body.wp P E io (Rg P E io Q k xs i0 pr ev so j r) s

theorem Ra_normal (xs : List Value) (i0 : Nat) (pr : Nat → Prop) (ev : Nat → List (Nat × AV)) (so : Nat → List (Nat × Ob)) (j : Nat) (r : ByteArray) (body : SC) :
    Ra P E io Q k xs i0 pr ev so j r body .normal ⟨envOf env, stoOf sto⟩ = W P E io (Rg P E io Q k xs i0 pr ev so j r) body [] env sto := by
  apply propext
  constructor
  · exact fun h => h.2
  · exact fun h => ⟨rfl, h⟩
theorem Rg_ret (xs : List Value) (i0 : Nat) (pr : Nat → Prop) (ev : Nat → List (Nat × AV)) (so : Nat → List (Nat × Ob)) (j : Nat) (r : ByteArray) :
    Rg P E io Q k xs i0 pr ev so j r .ret ⟨envOf env, stoOf sto⟩ = B P E io Q k .ret (ev j) sto := rfl
theorem Rg_exit (xs : List Value) (i0 : Nat) (pr : Nat → Prop) (ev : Nat → List (Nat × AV)) (so : Nat → List (Nat × Ob)) (j i : Nat) (r : ByteArray) :
    Rg P E io Q k xs i0 pr ev so j r (.exit i) ⟨envOf env, stoOf sto⟩ = B P E io Q k (.exit i) (ev j) sto := rfl

theorem shut0 {xs : List AV} (h : idsL xs = []) : Shut xs [] := ⟨fun i hi => by rw [h] at hi; simp at hi, fun id o ho => by simp [stoOf] at ho, fun id o ho => by simp [stoOf] at ho⟩
end
theorem rep1 {α : Type} (x : α) : List.replicate 1 x = [x] := rfl
theorem rep2 {α : Type} (x : α) : List.replicate 2 x = [x, x] := rfl
theorem rep3 {α : Type} (x : α) : List.replicate 3 x = [x, x, x] := rfl
theorem rep4 {α : Type} (x : α) : List.replicate 4 x = [x, x, x, x] := rfl
theorem rep5 {α : Type} (x : α) : List.replicate 5 x = [x, x, x, x, x] := rfl
attribute [go_sem] rep1 rep2 rep3 rep4 rep5 List.set_cons_zero List.set_cons_succ
attribute [go_sem] Ra_normal Rg_ret Rg_exit B_lp B_lp_ret B_lp_exit W_seq W_block W_skip W_ret W_exit B_code B_code_ret B_code_exit B_blk_ret B_blk B_blk_exit B_nil W_cond_ct W_cond_cf W_cond_t W_cond_f W_reg R_nil0 R_op N_f N_f0 N_t N_t0 R_run_t R_run_f R_pass_t R_pass_f R_pass_u R_pass0_t R_pass0_f R_pass0_u R_call evs
  lk_nil lk_cons ls_nil ls_cons svE lsF_app keepL argL core isFresh packA packT AV.padd binV binFl unV eqC eqCs lenA AV.isStr AV.asOwn AV.asTree AV.isNil slTrees rowPart fillP fillR fillA splice AV.cells AV.one AV.tree trees resL1 resL packR
  if_true if_false Option.isNone_none Option.isNone_some decide_true decide_false Bool.and_true Bool.true_and Bool.and_false Bool.false_and Bool.or_true Bool.true_or Bool.or_false Bool.false_or Bool.not_true Bool.not_false List.all_cons List.all_nil and_self and_true true_and
  List.cons_append List.nil_append List.append_nil Option.map_some Option.map_none List.drop_zero List.drop_succ_cons List.take_succ_cons List.take_zero List.getElem?_cons_zero List.getElem?_cons_succ List.map_cons List.map_nil List.length_cons List.length_nil Bool.false_eq_true not_true_eq_false not_false_eq_true Bool.true_eq_false Nat.zero_add

attribute [go_sem] Nat.reduceEqDiff Nat.reduceAdd Nat.reduceLeDiff reduceCtorEq Nat.reduceLT Int.reduceLT Int.reduceLE Int.reduceEq Int.reduceToNat Nat.reduceMul
attribute [go_sem ↓] reduceIte

end Go.Sx
