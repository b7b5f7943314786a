/- The shapes of a law's arguments, told without the program's type numbers. No statement of a seat is proved here. -/
import Derived.Test.YtgmpceijcdimkaaGreatDoorSxGlue
set_option linter.unusedSimpArgs false
set_option linter.unusedVariables false
namespace Go.Sx
open Go.ChangeShapes Go.WideShapes Go.ChangeAt Go.RowKit

/-- The shape of a type without pointers, maps, functions. -/
inductive Sh where
 | bo
 | it (k : IntKind)
 | fl (k : FloatKind)
 | str
 | sl (sz : Nat) (e : Sh)
 | st (fs : List Sh)

mutual
/-- The trees of a shape. -/
def okS : Sh → List T → Prop
 | .bo, cs => ∃ b, cs = [.v (.bool b)]
 | .it k, cs => ∃ i, cs = [.v (.int k i)] ∧ (Lit.int k i).wf = true
 | .fl k, cs => ∃ i, cs = [.v (.float k i)] ∧ (Lit.float k i).wf = true
 | .str, cs => ∃ s, cs = [.v (.string s)] ∧ s.size ≤ reachBytes
 | .sl sz e, cs => ∃ es, cs = [.sl sz es] ∧ es.length ≤ reachBytes ∧ ∀ c ∈ es, okS e c
 | .st fs, cs => D0w fs cs
def D0w : List Sh → List T → Prop
 | [], cs => cs = []
 | s :: ss, cs => ∃ a b, cs = a ++ b ∧ okS s a ∧ D0w ss b
end

def B1q (f : TypeId → Option Sh) : List TypeId → Option (List Sh)
 | [] => some []
 | t :: ts => match f t, B1q f ts with
  | some a, some b => some (a :: b)
  | _, _ => none

def B0i (P : Program) : Nat → TypeId → Option Sh
 | 0, _ => none
 | n + 1, t => match P.underlying t with
  | some .bool => some .bo
  | some (.int k) => some (.it k)
  | some (.float k) => some (.fl k)
  | some .string => some .str
  | some (.slice e) => (B0i P n e).map (.sl (P.cellsOf e))
  | some (.struct fs) => (B1q (B0i P n) (fs.toList.map (·.type))).map .st
  | some (.array m e) => (B1q (B0i P n) (List.replicate m e)).map .st
  | _ => none

theorem C8o {P : Program} {n : Nat} (ih : ∀ t cs s, okT P n t cs → B0i P n t = some s → okS s cs) : ∀ (ts : List TypeId) (cs : List T) (ss : List Sh), parts (okT P n) ts cs → B1q (B0i P n) ts = some ss → D0w ss cs
 | [], cs, ss, h, hs => by
  simp only [B1q, Option.some.injEq] at hs; subst hs
  simpa only [D0w, parts] using h
 | t :: ts, cs, ss, h, hs => by
  simp only [B1q] at hs
  split at hs
  ·rename_i a b ha hb
   injection hs with hs; subst hs
   simp only [parts] at h
   obtain ⟨x, y, rfl, h1, h2⟩ := h
   simp only [D0w]
   exact ⟨x, y, rfl, ih t x a h1 ha, C8o ih ts y b h2 hb⟩
  ·cases hs

theorem D8c {P : Program} : ∀ (n : Nat) (t : TypeId) (cs : List T) (s : Sh), okT P n t cs → B0i P n t = some s → okS s cs
 | 0, t, cs, s, h, _ => by simp [okT] at h
 | n + 1, t, cs, s, h, hs => by
  simp only [okT] at h
  simp only [B0i] at hs
  have ih := D8c (P := P) n
  cases hu : P.underlying t with
  | none => rw [hu] at hs; cases hs
  | some D =>
   rw [hu] at h hs
   cases D with
   | bool => simp only [Option.some.injEq] at hs; subst hs; simpa only [okS] using h
   | int k => simp only [Option.some.injEq] at hs; subst hs; simpa only [okS] using h
   | float k => simp only [Option.some.injEq] at hs; subst hs; simpa only [okS] using h
   | string => simp only [Option.some.injEq] at hs; subst hs; simpa only [okS] using h
   | slice e =>
    simp only [Option.map_eq_some_iff] at hs
    obtain ⟨a, ha, rfl⟩ := hs
    obtain ⟨es, rfl, hl, he⟩ := h
    simp only [okS]
    exact ⟨es, rfl, hl, fun c hc => ih e c a (he c hc) ha⟩
   | struct fs =>
    simp only [Option.map_eq_some_iff] at hs
    obtain ⟨a, ha, rfl⟩ := hs
    simp only [okS]
    exact C8o ih _ _ _ h ha
   | array m e =>
    simp only [Option.map_eq_some_iff] at hs
    obtain ⟨a, ha, rfl⟩ := hs
    simp only [okS]
    exact C8o ih _ _ _ h ha
   | _ => cases hs

/-- The shapes of parameters, and whether each is a struct or an array. -/
def B2b (P : Program) (m : Nat) : List TypeId → Option (List (Bool × Sh))
 | [] => some []
 | t :: ts => match P.underlying t, B0i P m t, B2b P m ts with
  | some D, some a, some b => some ((S5 D, a) :: b)
  | _, _, _ => none

def B34 : List (Bool × Sh) → List AV → Prop
 | [], xs => xs = []
 | (g, s) :: ss, xs => ∃ cs ys, xs = (if g then AV.ag (cs.map .t) else .t (cs.headD (.v undef))) :: ys ∧ okS s cs ∧ B34 ss ys

theorem C5o {P : Program} {m : Nat} : ∀ (ts : List TypeId) (xs : List AV) (ss : List (Bool × Sh)), B8h P m ts xs → B2b P m ts = some ss → B34 ss xs
 | [], xs, ss, h, hs => by
  simp only [B2b, Option.some.injEq] at hs; subst hs
  simpa only [B34, B8h] using h
 | t :: ts, xs, ss, h, hs => by
  simp only [B2b] at hs
  split at hs
  ·rename_i D a b hD ha hb
   injection hs with hs; subst hs
   simp only [B8h] at h
   obtain ⟨cs, ys, rfl, h1, h2⟩ := h
   simp only [B34]
   refine ⟨cs, ys, ?_, D8c m t cs a h1 ha, C5o ts ys b h2 hb⟩
   rw [hD]
   cases D <;> rfl
  ·cases hs

section
variable {H : Type} {enc : TypeId × Value → H} {P : Program} {E : Env}

def D6a (P : Program) (m : Nat) (ts : List TypeId) : Bool := ts.all fun t => A7u P m t && (P.readableRec t && decide (t < P.types.size))

/-- A law that answers true whatever it is handed: what its row asks, by shapes. -/
theorem D6m (hl : laidOutB P = true) {fid : FuncId} {f : Func} {s : ChangeSpec} {W : World} {base m tb : Nat} {args : Array Value} {ds gs : List (DataW H)} {before : List MemPlace} {apart fresh handsOn : Bool} {ss : List (Bool × Sh)}
  (hb : f.body.isSome = true) (hf : P.funcs[fid]? = some f) (hE : E.gi W) (hgb : ∀ b, E.gb b → b < W.heap.size)
  (hvars : s.vars = []) (hrt : f.resultTypes = #[tb]) (htb : P.underlying tb = some .bool)
  (hfn : ∀ ds : List (DataW H), ds.length = f.params.size → s.fn H ds = { results := [.lit (.bool true)], args := ds })
  (hs : D6a P m f.params.toList = true) (hss : B2b P m f.params.toList = some ss)
  (hval : ∀ (j : Nat) t v, f.params[j]? = some t → args[j]? = some v → Value.okWide P W .any base t v)
  (hW : DataW.Whole enc P f.params.toList s.vars apart W args.toList ds gs before)
  (hwt : (DataW.weightsEach P (f.params.toList ++ s.plain.varTypes P) (ds ++ gs)).all (· ≤ reachBytes) = true)
  (hm : ∀ xs, B34 ss xs → Meets P E fid xs [] (Bo true) []) :
  Calls P fid args W fun e W' => ∃ v, e = .returned v ∧ s.post enc P f apart fresh handsOn false W args v W' :=
 D76 hl hb hf hE hgb hvars hrt htb hfn (fun t ht => by
  have := List.all_eq_true.1 hs t ht
  simpa using this) hval hW hwt fun xs h => hm xs (C5o _ xs ss h hss)
end
end Go.Sx
