/- Contracts by other names; calls that show rows or change objects; ends that leave objects. No statement of a seat is proved here. -/
import Derived.Test.YtgnokggmbkhnbaaSxRun
set_option linter.unusedSimpArgs false
set_option linter.unusedVariables false
namespace Go.Sx

mutual
/-- Other names for objects. -/
def renA (π : Nat → Nat) : AV → AV
  | .ag cs => .ag (renL π cs)
  | .tp cs => .tp (renL π cs)
  | .ptr i o => .ptr (π i) o
  | .ept i s j o => .ept (π i) s j o
  | .own i s o l r => .own (π i) s o l r
  | .fn f a b => .fn f (renL π a) (renL π b)
  | .t x => .t x
  | .ipt cs => .ipt cs
  | .undef => .undef
def renL (π : Nat → Nat) : List AV → List AV
  | [] => []
  | x :: xs => renA π x :: renL π xs
end

def renO (π : Nat → Nat) : Ob → Ob
  | .box cs => .box (renL π cs)
  | .row s r es => .row s r es
  | .fro s es => .fro s es
  | .dead => .dead

def renS (π : Nat → Nat) : List (Nat × Ob) → List (Nat × Ob)
  | [] => []
  | (i, o) :: l => (π i, renO π o) :: renS π l

mutual
theorem ids_ren {π : Nat → Nat} : ∀ (x : AV) (i : Nat), i ∈ (renA π x).ids → ∃ j ∈ x.ids, i = π j
  | .ag cs, i, h => by simp only [renA, AV.ids] at h ⊢; exact idsL_ren cs i h
  | .tp cs, i, h => by simp only [renA, AV.ids] at h ⊢; exact idsL_ren cs i h
  | .ptr j o, i, h => by simp only [renA, AV.ids, List.mem_singleton] at h ⊢; exact ⟨j, rfl, h⟩
  | .ept j s k o, i, h => by simp only [renA, AV.ids, List.mem_singleton] at h ⊢; exact ⟨j, rfl, h⟩
  | .own j s o l r, i, h => by simp only [renA, AV.ids, List.mem_singleton] at h ⊢; exact ⟨j, rfl, h⟩
  | .fn f a b, i, h => by
    simp only [renA, AV.ids, List.mem_append] at h ⊢
    rcases h with h | h
    · obtain ⟨j, hj, e⟩ := idsL_ren a i h; exact ⟨j, Or.inl hj, e⟩
    · obtain ⟨j, hj, e⟩ := idsL_ren b i h; exact ⟨j, Or.inr hj, e⟩
  | .t x, i, h => by simp [renA, AV.ids] at h
  | .ipt cs, i, h => by simp [renA, AV.ids] at h
  | .undef, i, h => by simp [renA, AV.ids] at h
theorem idsL_ren {π : Nat → Nat} : ∀ (l : List AV) (i : Nat), i ∈ idsL (renL π l) → ∃ j ∈ idsL l, i = π j
  | [], i, h => by simp [renL, idsL] at h
  | x :: l, i, h => by
    simp only [renL, idsL, List.mem_append] at h ⊢
    rcases h with h | h
    · obtain ⟨j, hj, e⟩ := ids_ren x i h; exact ⟨j, Or.inl hj, e⟩
    · obtain ⟨j, hj, e⟩ := idsL_ren l i h; exact ⟨j, Or.inr hj, e⟩
end

mutual
theorem CA_ren {π : Nat → Nat} {A : Nat → Prop} {φ : Nat → Nat} {w : World} : ∀ (x : AV) (v : Value), CA A φ w (renA π x) v ↔ CA A (φ ∘ π) w x v
  | .ag cs, v => by simp only [renA, CA, CAs_ren cs]
  | .tp cs, v => by simp only [renA, CA, CAs_ren cs]
  | .ptr j o, v => by simp only [renA, CA, Function.comp]
  | .ept j s k o, v => by simp only [renA, CA, Function.comp]
  | .own j s o l r, v => by simp only [renA, CA, Function.comp]
  | .fn f a b, v => by simp only [renA, CA, CAs_ren a, CAs_ren b]
  | .t x, v => by simp only [renA, CA]
  | .ipt cs, v => by simp only [renA, CA]
  | .undef, v => by simp only [renA, CA]
theorem CAs_ren {π : Nat → Nat} {A : Nat → Prop} {φ : Nat → Nat} {w : World} : ∀ (l : List AV) (vs : List Value), CAs A φ w (renL π l) vs ↔ CAs A (φ ∘ π) w l vs
  | [], vs => by simp only [renL, CAs]
  | x :: l, vs => by simp only [renL, CAs, CA_ren x, CAs_ren l]
end

theorem CO_ren {π : Nat → Nat} {A : Nat → Prop} {φ : Nat → Nat} {w : World} {b : Nat} (o : Ob) : CO A φ w b (renO π o) ↔ CO A (φ ∘ π) w b o := by
  cases o <;> simp only [renO, CO, CAs_ren]

theorem oids_ren {π : Nat → Nat} (o : Ob) (i : Nat) (h : i ∈ (renO π o).ids) : ∃ j ∈ o.ids, i = π j := by
  cases o with
  | box cs => simp only [renO, Ob.ids] at h ⊢; exact idsL_ren cs i h
  | _ => simp [renO, Ob.ids] at h

theorem live_ren {π : Nat → Nat} (o : Ob) : (renO π o).live = o.live := by cases o <;> rfl

theorem keys_ren {π : Nat → Nat} : ∀ (l : List (Nat × Ob)) (i : Nat), i ∈ keysOf (renS π l) ↔ ∃ j ∈ keysOf l, i = π j
  | [], i => by simp [renS, keysOf]
  | (k, o) :: l, i => by
    have := keys_ren (π := π) l i
    simp only [renS, keysOf, List.map_cons, List.mem_cons] at this ⊢
    rw [this]
    constructor
    · rintro (h | ⟨j, hj, e⟩)
      · exact ⟨k, Or.inl rfl, h⟩
      · exact ⟨j, Or.inr hj, e⟩
    · rintro ⟨j, hj | hj, e⟩
      · subst hj; exact Or.inl e
      · exact Or.inr ⟨j, hj, e⟩

theorem stoOf_renS {π : Nat → Nat} : ∀ {l : List (Nat × Ob)} {id : Nat} {o : Ob}, stoOf (renS π l) id = some o → ∃ i o', stoOf l i = some o' ∧ π i = id ∧ o = renO π o'
  | [], id, o, h => by simp [renS, stoOf] at h
  | (j, q) :: l, id, o, h => by
    simp only [renS, stoOf] at h
    split at h
    · rename_i e; injection h with h; exact ⟨j, q, by simp [stoOf], e.symm, h.symm⟩
    · rename_i e
      obtain ⟨i, o', h1, h2, h3⟩ := stoOf_renS h
      refine ⟨i, o', ?_, h2, h3⟩
      simp only [stoOf]
      rw [if_neg (fun hij => e (by rw [← h2, hij]))]
      exact h1

theorem stoOf_ren {π : Nat → Nat} : ∀ {l : List (Nat × Ob)} {i : Nat} {o : Ob}, (∀ a ∈ keysOf l, ∀ b ∈ keysOf l, π a = π b → a = b) → stoOf l i = some o → stoOf (renS π l) (π i) = some (renO π o)
  | [], i, o, _, h => by simp [stoOf] at h
  | (j, q) :: l, i, o, hi, h => by
    simp only [stoOf] at h
    simp only [renS, stoOf]
    split at h
    · rename_i e; subst e; injection h with h; subst h; simp
    · rename_i e
      have hil : i ∈ keysOf l := stoOf_some.1 (by rw [h]; rfl)
      rw [if_neg (fun hij => e (hi i (by simp only [keysOf, List.map_cons, List.mem_cons]; exact Or.inr hil) j (by simp [keysOf]) hij))]
      exact stoOf_ren (fun a ha b hb => hi a (by simp only [keysOf, List.map_cons, List.mem_cons]; exact Or.inr ha) b (by simp only [keysOf, List.map_cons, List.mem_cons]; exact Or.inr hb)) h

section
variable {P : Program} {E : Env}

/-- A contract by other names. -/
theorem Meets.ren {f : FuncId} {args : List AV} {ins outs : List (Nat × Ob)} {r : AV} (π : Nat → Nat) (hπ : ∀ a ∈ keysOf outs, ∀ b ∈ keysOf outs, π a = π b → a = b) (h : Meets P E f args ins r outs) :
    Meets P E f (renL π args) (renS π ins) (renA π r) (renS π outs) where
  shutIn := {
    vals := fun i hi => by obtain ⟨j, hj, e⟩ := idsL_ren args i hi; exact (keys_ren ins i).2 ⟨j, h.shutIn.vals j hj, e⟩
    objs := fun id o ho i hi => by
      obtain ⟨k, o', h1, h2, rfl⟩ := stoOf_renS ho
      obtain ⟨j, hj, e⟩ := oids_ren o' i hi
      exact (keys_ren ins i).2 ⟨j, h.shutIn.objs k o' h1 j hj, e⟩
    live := fun id o ho => by
      obtain ⟨k, o', h1, h2, rfl⟩ := stoOf_renS ho
      rw [live_ren]; exact h.shutIn.live k o' h1 }
  shutOut := {
    vals := fun i hi => by obtain ⟨j, hj, e⟩ := idsL_ren [r] i hi; exact (keys_ren outs i).2 ⟨j, h.shutOut.vals j hj, e⟩
    objs := fun id o ho i hi => by
      obtain ⟨k, o', h1, h2, rfl⟩ := stoOf_renS ho
      obtain ⟨j, hj, e⟩ := oids_ren o' i hi
      exact (keys_ren outs i).2 ⟨j, h.shutOut.objs k o' h1 j hj, e⟩
    live := fun id o ho => by
      obtain ⟨k, o', h1, h2, rfl⟩ := stoOf_renS ho
      rw [live_ren]; exact h.shutOut.live k o' h1 }
  stay := fun i hi => by obtain ⟨j, hj, e⟩ := (keys_ren ins i).1 hi; exact (keys_ren outs i).2 ⟨j, h.stay j hj, e⟩
  runs := fun A φ w vals gi gA alt hH hargs => by
    have hin : ∀ a ∈ keysOf ins, ∀ b ∈ keysOf ins, π a = π b → a = b := fun a ha b hb => hπ a (h.stay a ha) b (h.stay b hb)
    have hrun := h.runs A (φ ∘ π) w vals gi gA alt {
      obj := fun id o ho => (CO_ren o).1 (hH.obj (π id) (renO π o) (stoOf_ren hin ho))
      own := fun id o ho => hH.own (π id) (renO π o) (stoOf_ren hin ho)
      inj := fun i j hi hj hij => hH.inj (π i) (π j) ((keys_ren ins _).2 ⟨i, hi, rfl⟩) ((keys_ren ins _).2 ⟨j, hj, rfl⟩) (fun e => hij (hin i hi j hj e)) } ((CAs_ren args _).1 hargs)
    have fin : ∀ v w', (∃ A' φ', Fin A (φ ∘ π) w ins r outs v w' A' φ') → ∃ A' φ', Fin A φ w (renS π ins) (renA π r) (renS π outs) v w' A' φ' := by
      intro v w' ⟨A', φ', hf⟩
      refine ⟨A', fun j => (outs.find? (fun p => π p.1 == j)).elim (φ j) (fun p => φ' p.1), ?_⟩
      have key : ∀ i ∈ keysOf outs, ((outs.find? (fun p => π p.1 == π i)).elim (φ (π i)) (fun p => φ' p.1)) = φ' i := by
        intro i hi
        cases hfd : outs.find? (fun p => π p.1 == π i) with
        | none =>
          obtain ⟨p, hp, e⟩ := List.mem_map.1 hi
          have := List.find?_eq_none.1 hfd p hp
          rw [e] at this; simp at this
        | some p =>
          have h1 := List.find?_some hfd
          have h2 := List.mem_of_find?_eq_some hfd
          simp only [Option.elim_some]
          rw [hπ p.1 (List.mem_map.2 ⟨p, h2, rfl⟩) i hi (by simpa using h1)]
      have key2 : ∀ i, i ∈ keysOf outs → ((fun j => (outs.find? (fun p => π p.1 == j)).elim (φ j) (fun p => φ' p.1)) ∘ π) i = φ' i := key
      exact {
        go := hf.go
        agree := fun id hid => by
          obtain ⟨i, hi, rfl⟩ := (keys_ren ins id).1 hid
          rw [key i (h.stay i hi)]; exact hf.agree i hi
        holds := {
          obj := fun id o ho => by
            obtain ⟨i, o', h1, rfl, rfl⟩ := stoOf_renS ho
            rw [key i (stoOf_some.1 (by rw [h1]; rfl)), CO_ren]
            exact CO.goes (Goes.refl A' w') o' (fun j hj => key2 j (h.shutOut.objs i o' h1 j hj)) (fun _ => rfl) (hf.holds.obj i o' h1)
          own := fun id o ho => by
            obtain ⟨i, o', h1, rfl, rfl⟩ := stoOf_renS ho
            rw [key i (stoOf_some.1 (by rw [h1]; rfl))]
            exact hf.holds.own i o' h1
          inj := fun a b ha hb hab => by
            obtain ⟨i, hi, rfl⟩ := (keys_ren outs a).1 ha
            obtain ⟨j, hj, rfl⟩ := (keys_ren outs b).1 hb
            rw [key i hi, key j hj]
            exact hf.holds.inj i j hi hj (fun e => hab (by rw [e])) }
        fresh := fun id hid => by
          obtain ⟨i, hi, rfl⟩ := (keys_ren outs id).1 hid
          rw [key i hi]
          exact (hf.fresh i hi).imp (fun h => (keys_ren ins _).2 ⟨i, h, rfl⟩) (fun h => h)
        ca := by
          rw [CA_ren]
          exact CA.goes (Goes.refl A' w') r v (fun j hj => key2 j (h.shutOut.vals j (by simpa [idsL] using hj))) hf.ca
        anew := hf.anew
        alt := hf.alt
        old := fun b hb hne => hf.old b hb (fun i hi => hne (π i) ((keys_ren ins _).2 ⟨i, hi, rfl⟩))
        os := hf.os
        tape := hf.tape
        output := hf.output
        size := hf.size }
    rcases hrun with ⟨h1, h2⟩ | ⟨v, w', h1, h2⟩
    · exact Or.inl ⟨h1, h2.mono fun e w' ⟨v, he, hv⟩ => ⟨v, he, fin v w' hv⟩⟩
    · exact Or.inr ⟨v, w', h1, fin v w' h2⟩

theorem CAs.mid {A : Nat → Prop} {φ : Nat → Nat} {w : World} : ∀ {xs ys : List AV} {x : AV} {vs : List Value}, CAs A φ w (xs ++ x :: ys) vs → ∃ v, CA A φ w x v ∧ ∀ x', CA A φ w x' v → CAs A φ w (xs ++ x' :: ys) vs
  | [], ys, x, vs, h => by
    simp only [List.nil_append, CAs] at h ⊢
    obtain ⟨z, zs, rfl, h1, h2⟩ := h
    exact ⟨z, h1, fun x' hx => ⟨z, zs, rfl, hx, h2⟩⟩
  | u :: xs, ys, x, vs, h => by
    simp only [List.cons_append, CAs] at h ⊢
    obtain ⟨z, zs, rfl, h1, h2⟩ := h
    obtain ⟨v, hv, hk⟩ := CAs.mid h2
    exact ⟨v, hv, fun x' hx => ⟨z, zs, rfl, h1, hk x' hx⟩⟩

theorem idsL_mid (xs ys : List AV) {x y : AV} (h : x.ids = y.ids) : idsL (xs ++ x :: ys) = idsL (xs ++ y :: ys) := by
  induction xs with
  | nil => simp only [List.nil_append, idsL, h]
  | cons u xs ih => simp only [List.cons_append, idsL, ih]

/-- A slice without elements: at whatever place it stands, nil too. -/
theorem Meets.of_empty {f : FuncId} {xs ys : List AV} {ins outs : List (Nat × Ob)} {r : AV} {sz : Nat} (h : ∀ a c, Meets P E f (xs ++ .t (.v (.slice a 0 c)) :: ys) ins r outs) : Meets P E f (xs ++ .t (.sl sz []) :: ys) ins r outs where
  shutIn := {
    vals := fun i hi => (h none 0).shutIn.vals i (by rw [idsL_mid xs ys (x := .t (.v (.slice none 0 0))) (y := .t (.sl sz [])) rfl]; exact hi)
    objs := (h none 0).shutIn.objs
    live := (h none 0).shutIn.live }
  shutOut := (h none 0).shutOut
  stay := (h none 0).stay
  runs := fun A φ w vals gi gA alt hH hargs => by
    obtain ⟨v, hv, hk⟩ := CAs.mid hargs
    simp only [CA, CT] at hv
    obtain ⟨a, cap, rfl, _, _⟩ := hv
    exact (h a cap).runs A φ w vals gi gA alt hH (hk _ (by simp [CA, CT, Value.oneCell']))
end

theorem shut_of {xs : List AV} {l : List (Nat × Ob)} (h1 : ∀ i ∈ idsL xs, i ∈ keysOf l) (h2 : ∀ p ∈ l, p.2.live = true ∧ ∀ i ∈ p.2.ids, i ∈ keysOf l) : Shut xs l where
  vals := h1
  objs := fun _ _ ho => (h2 _ (stoOf_mem ho)).2
  live := fun _ _ ho => (h2 _ (stoOf_mem ho)).1

/-- A caller's values as a callee is told them, reckoned. -/
def wksP (sto : Nat → Option Ob) (sn : List Nat) : List AV → List AV → Prop
  | [], [] => True
  | x :: xs, y :: ys => (Wk sto sn x y ∨ (∃ cs ds, x = .ag cs ∧ y = .ag ds ∧ Wks sto sn cs ds)) ∧ wksP sto sn xs ys
  | _, _ => False

theorem wks_of {sto : Nat → Option Ob} {sn : List Nat} : ∀ {xs ys : List AV}, wksP sto sn xs ys → Wks sto sn xs ys
  | [], [], _ => .nil
  | [], _ :: _, h => by simp [wksP] at h
  | _ :: _, [], h => by simp [wksP] at h
  | x :: xs, y :: ys, h => by
    simp only [wksP] at h
    rcases h.1 with h1 | ⟨cs, ds, rfl, rfl, h1⟩
    · exact .one h1 (wks_of h.2)
    · exact .ag h1 (wks_of h.2)

theorem Wk.row {sto : Nat → Option Ob} {sn : List Nat} {id sz off len : Nat} {r : Bool} {es : List (List T)} (h : slTrees sz sto (.own id sz off len r) = some es) (hi : id ∈ sn) : Wk sto sn (.own id sz off len r) (.t (.sl sz es)) :=
  ⟨rfl, h, Or.inl hi⟩

theorem Wk.fro {sto : Nat → Option Ob} {sn : List Nat} {id sz off len : Nat} {r : Bool} {es fs : List (List T)} (h : slTrees sz sto (.own id sz off len r) = some es) (hi : sto id = some (.fro sz fs)) : Wk sto sn (.own id sz off len r) (.t (.sl sz es)) :=
  ⟨rfl, h, Or.inr ⟨sz, fs, Or.inl hi⟩⟩

theorem Wk.gone {sto : Nat → Option Ob} {sn : List Nat} {id sz off len : Nat} {r : Bool} {es fs : List (List T)} (h : slTrees sz sto (.own id sz off len r) = some es) (hi : sto id = some (.row sz false fs)) : Wk sto sn (.own id sz off len r) (.t (.sl sz es)) :=
  ⟨rfl, h, Or.inr ⟨sz, fs, Or.inr hi⟩⟩

theorem Wk.empty {sto : Nat → Option Ob} {sn : List Nat} {sz : Nat} : Wk sto sn (.t (.v (.slice none 0 0))) (.t (.sl sz [])) := rfl

section
variable {P : Program} {E : Env} {io : List Nat} {Q : Exit → St → Prop} {k : List Kt} {env : List (Nat × AV)} {sto : List (Nat × Ob)} {draw : Bool} {prs : List (Nat × Nat)} {vars : List Nat} {id : Nat} {acc : List Rc}

/-- A call that is shown rows, hands in objects, and leaves objects. -/
theorem Cl_io {ops : List SO} {d : Option Nat} {g : FuncId} {as ys : List AV} {r : AV} {ins outs : List (Nat × Ob)} (sn : List Nat) (keep : Bool) (h : Meets P E g ys ins r outs) (hw : Wks (stoOf sto) sn as ys)
    (hin : ∀ i ∈ keysOf ins, stoOf sto i = stoOf ins i) (hnew : ∀ i ∈ keysOf outs, i ∈ keysOf ins ∨ (stoOf sto i = none ∧ 100 ≤ i)) (hs : ∀ i ∈ sn, 100 ≤ i ∧ i ∉ keysOf ins ∧ ∃ sz es, stoOf sto i = some (.row sz true es))
    (hk : keep = true → r.plain = true ∧ ∀ i o, stoOf outs i = some o → o.plain) (nd : (keysOf outs).Nodup)
    (hr : R P E io Q draw prs vars k (id + 1) ops (if draw then acc ++ [⟨r, idsL as ++ keysOf outs ++ sn, outs ++ (if keep then [] else froze (stoOf sto) sn)⟩] else acc) (match d with | some d => (d, r) :: env | none => env) (outs ++ (if keep then [] else froze (stoOf sto) sn) ++ sto)) :
    Cl P E io Q draw prs vars k id ops acc d env sto (.fn g [] []) as := by
  refine ⟨g, [], [], rfl, r, ins, outs, sn, keep, ys, ?_, ?_⟩
  · exact { meets := h, wk := by simpa using hw, insOk := hin, newOk := hnew, snOk := hs, keepOk := hk, nd := nd }
  · have e : ([] : List AV) ++ as ++ [] = as := by simp
    rw [e]; exact hr

/-- A call that leaves objects. -/
theorem Cl_new {ops : List SO} {d : Option Nat} {g : FuncId} {xs : List AV} {r : AV} {outs : List (Nat × Ob)} (h : Meets P E g xs [] r outs) (hnew : ∀ i ∈ keysOf outs, stoOf sto i = none ∧ 100 ≤ i) (nd : (keysOf outs).Nodup)
    (hr : R P E io Q draw prs vars k (id + 1) ops (if draw then acc ++ [⟨r, idsL xs ++ keysOf outs, outs⟩] else acc) (match d with | some d => (d, r) :: env | none => env) (outs ++ sto)) :
    Cl P E io Q draw prs vars k id ops acc d env sto (.fn g [] []) xs :=
  Cl_io [] false h (Wks.refl xs) (by simp [keysOf]) (fun i hi => Or.inr (hnew i hi)) (by simp) (by simp) nd (by simpa [keysOf, froze] using hr)

/-- A call that is handed objects, and leaves them. -/
theorem Cl_obj {ops : List SO} {d : Option Nat} {g : FuncId} {xs : List AV} {r : AV} {ins outs : List (Nat × Ob)} (h : Meets P E g xs ins r outs) (hin : ∀ i ∈ keysOf ins, stoOf sto i = stoOf ins i) (hk : keysOf outs = keysOf ins) (nd : (keysOf ins).Nodup)
    (hr : R P E io Q draw prs vars k (id + 1) ops (if draw then acc ++ [⟨r, idsL xs ++ keysOf outs, outs⟩] else acc) (match d with | some d => (d, r) :: env | none => env) (outs ++ sto)) :
    Cl P E io Q draw prs vars k id ops acc d env sto (.fn g [] []) xs :=
  Cl_io [] false h (Wks.refl xs) hin (fun i hi => Or.inl (by rw [← hk]; exact hi)) (by simp) (by simp) (by rw [hk]; exact nd) (by simpa [keysOf, froze] using hr)

/-- A call that is shown rows, and leaves them one's own. -/
theorem Cl_keep {ops : List SO} {d : Option Nat} {g : FuncId} {as ys : List AV} {r : AV} (sn : List Nat) (h : Meets P E g ys [] r []) (hw : Wks (stoOf sto) sn as ys)
    (hs : ∀ i ∈ sn, 100 ≤ i ∧ ∃ sz es, stoOf sto i = some (.row sz true es)) (hk : r.plain = true)
    (hr : R P E io Q draw prs vars k (id + 1) ops (if draw then acc ++ [⟨r, idsL as ++ sn, []⟩] else acc) (match d with | some d => (d, r) :: env | none => env) sto) :
    Cl P E io Q draw prs vars k id ops acc d env sto (.fn g [] []) as :=
  Cl_io sn true h hw (by simp [keysOf]) (by simp [keysOf]) (fun i hi => ⟨(hs i hi).1, by simp [keysOf], (hs i hi).2⟩) (fun _ => ⟨hk, by simp [stoOf]⟩) (by simp [keysOf]) (by simpa [keysOf] using hr)

/-- A call that is shown rows, which are written no more. -/
theorem Cl_show {ops : List SO} {d : Option Nat} {g : FuncId} {as ys : List AV} {r : AV} (sn : List Nat) (h : Meets P E g ys [] r []) (hw : Wks (stoOf sto) sn as ys)
    (hs : ∀ i ∈ sn, 100 ≤ i ∧ ∃ sz es, stoOf sto i = some (.row sz true es))
    (hr : R P E io Q draw prs vars k (id + 1) ops (if draw then acc ++ [⟨r, idsL as ++ sn, froze (stoOf sto) sn⟩] else acc) (match d with | some d => (d, r) :: env | none => env) (froze (stoOf sto) sn ++ sto)) :
    Cl P E io Q draw prs vars k id ops acc d env sto (.fn g [] []) as :=
  Cl_io sn false h hw (by simp [keysOf]) (by simp [keysOf]) (fun i hi => ⟨(hs i hi).1, by simp [keysOf], (hs i hi).2⟩) (by simp) (by simp [keysOf]) (by simpa [keysOf] using hr)

/-- The end of a function that leaves objects, or shows rows as trees. -/
theorem wends2 {res : List RV} {r : AV} {e : Exit} {outs : List (Nat × Ob)} (rn : List (Nat × Nat)) (sn : List Nat) (he : e = .ret ∨ e = .normal) (hr : ∃ raw, (resL env sto res).map packR = some raw ∧ wkV (stoOf sto) sn (ren rn) raw r) (hi : ∀ i ∈ r.ids, i ∈ keysOf outs)
    (h2 : stoS sto sn rn outs outs) (h3 : ((keysOf outs).map (ren rn)).Nodup)
    (h4 : ∀ i ∈ sn, 100 ≤ i ∧ (∃ sz es, stoOf sto i = some (.row sz true es)) ∧ ∀ j ∈ keysOf outs, ren rn j ≠ i) (h5 : ∀ i ∈ io, ren rn i = i) (h6 : ∀ i ∈ keysOf outs, ren rn i ∈ io → i = ren rn i) :
    SEnds io res r outs e ⟨envOf env, stoOf sto⟩ := by
  obtain ⟨raw, hr, hw⟩ := hr
  cases hl : resL env sto res with
  | none => rw [hl] at hr; cases hr
  | some raws =>
  rw [hl] at hr
  have hp : packR raws = raw := Option.some.inj hr
  refine ⟨by rcases he with rfl | rfl <;> trivial, raws, by rw [resL_eq]; exact hl, ⟨ren rn, sn, ⟨fun id o ho => (stoS_ok h2 id o ho).1, fun id o ho => (stoS_ok h2 id o ho).2,
    fun i j oi oj hi hj _ _ e => nodup_inj h3 i j (in_keys hi) (in_keys hj) e,
    fun i hi => ⟨(h4 i hi).1, (h4 i hi).2.1, fun id o ho _ => (h4 i hi).2.2 id (in_keys ho)⟩⟩, fun k => ?_, fun k i hk => ?_, h5, fun id hid => h6 id (stoOf_some.1 hid)⟩⟩
  · simp only [oneE, hp]
    split
    · exact hw
    · simp only [wkV]
  · simp only [oneE] at hk
    split at hk
    · exact stoOf_some.2 (hi i hk)
    · simp [AV.ids] at hk
end

theorem stoOf_ls (k : Nat) (l : List (Nat × Ob)) : stoOf l k = ls k l := rfl
theorem froze_nil (f : Nat → Option Ob) : froze f [] = [] := rfl
theorem froze_row {l : List (Nat × Ob)} {i : Nat} {sn : List Nat} {sz : Nat} {es : List (List T)} (h : ls i l = some (.row sz true es)) : froze (stoOf l) (i :: sn) = (i, .fro sz es) :: froze (stoOf l) sn := by
  simp only [froze, stoOf_ls, h]; rfl

attribute [go_sem] froze stoOf_ls

end Go.Sx
