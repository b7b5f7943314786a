/- Contracts by other names; calls that show rows or change objects; ends that leave objects. No statement of a seat is proved here. -/
import Derived.Test.YtgmpceijcdimkaaGreatDoorSxF
import Derived.Laws.Externs
set_option linter.unusedSimpArgs false
set_option linter.unusedVariables false
namespace Go.Sx

mutual
/-- Other names for objects. -/
def renA (π : Nat → Nat) : AV → AV
  | .ag cs => .ag (renL π cs)
  | .tp cs => .tp (renL π cs)
  | .ptr i o => .ptr (π i) o
  | .ept i s j o => .ept (π i) s j o
  | .own i s o l r => .own (π i) s o l r
  | .fn f a b => .fn f (renL π a) (renL π b)
  | .t x => .t x
  | .ipt cs => .ipt cs
  | .ifc b => .ifc b
  | .undef => .undef
def renL (π : Nat → Nat) : List AV → List AV
  | [] => []
  | x :: xs => renA π x :: renL π xs
end

def renO (π : Nat → Nat) : Ob → Ob
  | .box cs => .box (renL π cs)
  | .row s r es => .row s r es
  | .fro s es => .fro s es
  | .rowA s es => .rowA s (es.map (renL π))
  | .dead => .dead

def renS (π : Nat → Nat) : List (Nat × Ob) → List (Nat × Ob)
  | [] => []
  | (i, o) :: l => (π i, renO π o) :: renS π l

mutual
theorem ids_ren {π : Nat → Nat} : ∀ (x : AV) (i : Nat), i ∈ (renA π x).ids → ∃ j ∈ x.ids, i = π j
  | .ag cs, i, h => by simp only [renA, AV.ids] at h ⊢; exact idsL_ren cs i h
  | .tp cs, i, h => by simp only [renA, AV.ids] at h ⊢; exact idsL_ren cs i h
  | .ptr j o, i, h => by simp only [renA, AV.ids, List.mem_singleton] at h ⊢; exact ⟨j, rfl, h⟩
  | .ept j s k o, i, h => by simp only [renA, AV.ids, List.mem_singleton] at h ⊢; exact ⟨j, rfl, h⟩
  | .own j s o l r, i, h => by simp only [renA, AV.ids, List.mem_singleton] at h ⊢; exact ⟨j, rfl, h⟩
  | .fn f a b, i, h => by
    simp only [renA, AV.ids, List.mem_append] at h ⊢
    rcases h with h | h
    · obtain ⟨j, hj, e⟩ := idsL_ren a i h; exact ⟨j, Or.inl hj, e⟩
    · obtain ⟨j, hj, e⟩ := idsL_ren b i h; exact ⟨j, Or.inr hj, e⟩
  | .t x, i, h => by simp [renA, AV.ids] at h
  | .ipt cs, i, h => by simp [renA, AV.ids] at h
  | .ifc b, i, h => by simp [renA, AV.ids] at h
  | .undef, i, h => by simp [renA, AV.ids] at h
theorem idsL_ren {π : Nat → Nat} : ∀ (l : List AV) (i : Nat), i ∈ idsL (renL π l) → ∃ j ∈ idsL l, i = π j
  | [], i, h => by simp [renL, idsL] at h
  | x :: l, i, h => by
    simp only [renL, idsL, List.mem_append] at h ⊢
    rcases h with h | h
    · obtain ⟨j, hj, e⟩ := ids_ren x i h; exact ⟨j, Or.inl hj, e⟩
    · obtain ⟨j, hj, e⟩ := idsL_ren l i h; exact ⟨j, Or.inr hj, e⟩
end

mutual
theorem CA_ren {π : Nat → Nat} {A : Nat → Prop} {φ : Nat → Nat} {w : World} : ∀ (x : AV) (v : Value), CA A φ w (renA π x) v ↔ CA A (φ ∘ π) w x v
  | .ag cs, v => by simp only [renA, CA, CAs_ren cs]
  | .tp cs, v => by simp only [renA, CA, CAs_ren cs]
  | .ptr j o, v => by simp only [renA, CA, Function.comp]
  | .ept j s k o, v => by simp only [renA, CA, Function.comp]
  | .own j s o l r, v => by simp only [renA, CA, Function.comp]
  | .fn f a b, v => by simp only [renA, CA, CAs_ren a, CAs_ren b]
  | .t x, v => by simp only [renA, CA]
  | .ipt cs, v => by simp only [renA, CA]
  | .ifc b, v => by simp only [renA, CA]
  | .undef, v => by simp only [renA, CA]
theorem CAs_ren {π : Nat → Nat} {A : Nat → Prop} {φ : Nat → Nat} {w : World} : ∀ (l : List AV) (vs : List Value), CAs A φ w (renL π l) vs ↔ CAs A (φ ∘ π) w l vs
  | [], vs => by simp only [renL, CAs]
  | x :: l, vs => by simp only [renL, CAs, CA_ren x, CAs_ren l]
end

theorem renL_map (π : Nat → Nat) : ∀ l : List AV, renL π l = l.map (renA π)
  | [] => rfl
  | x :: l => by simp only [renL, List.map_cons, renL_map π l]

theorem CO_ren {π : Nat → Nat} {A : Nat → Prop} {φ : Nat → Nat} {w : World} {b : Nat} (o : Ob) : CO A φ w b (renO π o) ↔ CO A (φ ∘ π) w b o := by
  cases o with
  | rowA sz es =>
    simp only [renO, CO]
    have e1 : (es.map (renL π)).flatten = renL π es.flatten := by
      have hf : (renL π) = List.map (renA π) := by funext l; exact renL_map π l
      rw [hf, List.map_flatten]
    rw [e1]
    simp only [CAs_ren]
    have e2 : (∀ x ∈ es.map (renL π), x.length = sz) ↔ ∀ x ∈ es, x.length = sz := by
      simp only [List.mem_map, forall_exists_index, and_imp, forall_apply_eq_imp_iff₂, renL_map, List.length_map]
    rw [e2]
  | _ => simp only [renO, CO, CAs_ren]

theorem oids_ren {π : Nat → Nat} (o : Ob) (i : Nat) (h : i ∈ (renO π o).ids) : ∃ j ∈ o.ids, i = π j := by
  cases o with
  | box cs => simp only [renO, Ob.ids] at h ⊢; exact idsL_ren cs i h
  | rowA sz es =>
    simp only [renO, Ob.ids] at h ⊢
    have e1 : (es.map (renL π)).flatten = renL π es.flatten := by
      have hf : (renL π) = List.map (renA π) := by funext l; exact renL_map π l
      rw [hf, List.map_flatten]
    rw [e1] at h
    exact idsL_ren _ i h
  | _ => simp [renO, Ob.ids] at h

theorem live_ren {π : Nat → Nat} (o : Ob) : (renO π o).live = o.live := by cases o <;> rfl

theorem keys_ren {π : Nat → Nat} : ∀ (l : List (Nat × Ob)) (i : Nat), i ∈ keysOf (renS π l) ↔ ∃ j ∈ keysOf l, i = π j
  | [], i => by simp [renS, keysOf]
  | (k, o) :: l, i => by
    have := keys_ren (π := π) l i
    simp only [renS, keysOf, List.map_cons, List.mem_cons] at this ⊢
    rw [this]
    constructor
    · rintro (h | ⟨j, hj, e⟩)
      · exact ⟨k, Or.inl rfl, h⟩
      · exact ⟨j, Or.inr hj, e⟩
    · rintro ⟨j, hj | hj, e⟩
      · subst hj; exact Or.inl e
      · exact Or.inr ⟨j, hj, e⟩

theorem stoOf_renS {π : Nat → Nat} : ∀ {l : List (Nat × Ob)} {id : Nat} {o : Ob}, stoOf (renS π l) id = some o → ∃ i o', stoOf l i = some o' ∧ π i = id ∧ o = renO π o'
  | [], id, o, h => by simp [renS, stoOf] at h
  | (j, q) :: l, id, o, h => by
    simp only [renS, stoOf] at h
    split at h
    · rename_i e; injection h with h; exact ⟨j, q, by simp [stoOf], e.symm, h.symm⟩
    · rename_i e
      obtain ⟨i, o', h1, h2, h3⟩ := stoOf_renS h
      refine ⟨i, o', ?_, h2, h3⟩
      simp only [stoOf]
      rw [if_neg (fun hij => e (by rw [← h2, hij]))]
      exact h1

theorem stoOf_ren {π : Nat → Nat} : ∀ {l : List (Nat × Ob)} {i : Nat} {o : Ob}, (∀ a ∈ keysOf l, ∀ b ∈ keysOf l, π a = π b → a = b) → stoOf l i = some o → stoOf (renS π l) (π i) = some (renO π o)
  | [], i, o, _, h => by simp [stoOf] at h
  | (j, q) :: l, i, o, hi, h => by
    simp only [stoOf] at h
    simp only [renS, stoOf]
    split at h
    · rename_i e; subst e; injection h with h; subst h; simp
    · rename_i e
      have hil : i ∈ keysOf l := stoOf_some.1 (by rw [h]; rfl)
      rw [if_neg (fun hij => e (hi i (by simp only [keysOf, List.map_cons, List.mem_cons]; exact Or.inr hil) j (by simp [keysOf]) hij))]
      exact stoOf_ren (fun a ha b hb => hi a (by simp only [keysOf, List.map_cons, List.mem_cons]; exact Or.inr ha) b (by simp only [keysOf, List.map_cons, List.mem_cons]; exact Or.inr hb)) h

section
variable {P : Program} {E : Env}

/-- A contract by other names. -/
theorem Meets.ren {f : FuncId} {args : List AV} {ins outs : List (Nat × Ob)} {r : AV} (π : Nat → Nat) (hπ : ∀ a ∈ keysOf outs, ∀ b ∈ keysOf outs, π a = π b → a = b) (h : Meets P E f args ins r outs) :
    Meets P E f (renL π args) (renS π ins) (renA π r) (renS π outs) where
  shutIn := {
    vals := fun i hi => by obtain ⟨j, hj, e⟩ := idsL_ren args i hi; exact (keys_ren ins i).2 ⟨j, h.shutIn.vals j hj, e⟩
    objs := fun id o ho i hi => by
      obtain ⟨k, o', h1, h2, rfl⟩ := stoOf_renS ho
      obtain ⟨j, hj, e⟩ := oids_ren o' i hi
      exact (keys_ren ins i).2 ⟨j, h.shutIn.objs k o' h1 j hj, e⟩
    live := fun id o ho => by
      obtain ⟨k, o', h1, h2, rfl⟩ := stoOf_renS ho
      rw [live_ren]; exact h.shutIn.live k o' h1 }
  shutOut := {
    vals := fun i hi => by obtain ⟨j, hj, e⟩ := idsL_ren [r] i hi; exact (keys_ren outs i).2 ⟨j, h.shutOut.vals j hj, e⟩
    objs := fun id o ho i hi => by
      obtain ⟨k, o', h1, h2, rfl⟩ := stoOf_renS ho
      obtain ⟨j, hj, e⟩ := oids_ren o' i hi
      exact (keys_ren outs i).2 ⟨j, h.shutOut.objs k o' h1 j hj, e⟩
    live := fun id o ho => by
      obtain ⟨k, o', h1, h2, rfl⟩ := stoOf_renS ho
      rw [live_ren]; exact h.shutOut.live k o' h1 }
  stay := fun i hi => by obtain ⟨j, hj, e⟩ := (keys_ren ins i).1 hi; exact (keys_ren outs i).2 ⟨j, h.stay j hj, e⟩
  runs := fun A φ w vals gi gA alt hH hargs => by
    have hin : ∀ a ∈ keysOf ins, ∀ b ∈ keysOf ins, π a = π b → a = b := fun a ha b hb => hπ a (h.stay a ha) b (h.stay b hb)
    have hrun := h.runs A (φ ∘ π) w vals gi gA alt {
      obj := fun id o ho => (CO_ren o).1 (hH.obj (π id) (renO π o) (stoOf_ren hin ho))
      own := fun id o ho => hH.own (π id) (renO π o) (stoOf_ren hin ho)
      inj := fun i j hi hj hij => hH.inj (π i) (π j) ((keys_ren ins _).2 ⟨i, hi, rfl⟩) ((keys_ren ins _).2 ⟨j, hj, rfl⟩) (fun e => hij (hin i hi j hj e)) } ((CAs_ren args _).1 hargs)
    have fin : ∀ v w', (∃ A' φ', Fin E A (φ ∘ π) w ins r outs v w' A' φ') → ∃ A' φ', Fin E A φ w (renS π ins) (renA π r) (renS π outs) v w' A' φ' := by
      intro v w' ⟨A', φ', hf⟩
      refine ⟨A', fun j => (outs.find? (fun p => π p.1 == j)).elim (φ j) (fun p => φ' p.1), ?_⟩
      have key : ∀ i ∈ keysOf outs, ((outs.find? (fun p => π p.1 == π i)).elim (φ (π i)) (fun p => φ' p.1)) = φ' i := by
        intro i hi
        cases hfd : outs.find? (fun p => π p.1 == π i) with
        | none =>
          obtain ⟨p, hp, e⟩ := List.mem_map.1 hi
          have := List.find?_eq_none.1 hfd p hp
          rw [e] at this; simp at this
        | some p =>
          have h1 := List.find?_some hfd
          have h2 := List.mem_of_find?_eq_some hfd
          simp only [Option.elim_some]
          rw [hπ p.1 (List.mem_map.2 ⟨p, h2, rfl⟩) i hi (by simpa using h1)]
      have key2 : ∀ i, i ∈ keysOf outs → ((fun j => (outs.find? (fun p => π p.1 == j)).elim (φ j) (fun p => φ' p.1)) ∘ π) i = φ' i := key
      exact {
        go := hf.go
        agree := fun id hid => by
          obtain ⟨i, hi, rfl⟩ := (keys_ren ins id).1 hid
          rw [key i (h.stay i hi)]; exact hf.agree i hi
        holds := {
          obj := fun id o ho => by
            obtain ⟨i, o', h1, rfl, rfl⟩ := stoOf_renS ho
            rw [key i (stoOf_some.1 (by rw [h1]; rfl)), CO_ren]
            exact CO.goes (Goes.refl A' w') o' (fun j hj => key2 j (h.shutOut.objs i o' h1 j hj)) (fun _ => rfl) (hf.holds.obj i o' h1)
          own := fun id o ho => by
            obtain ⟨i, o', h1, rfl, rfl⟩ := stoOf_renS ho
            rw [key i (stoOf_some.1 (by rw [h1]; rfl))]
            exact hf.holds.own i o' h1
          inj := fun a b ha hb hab => by
            obtain ⟨i, hi, rfl⟩ := (keys_ren outs a).1 ha
            obtain ⟨j, hj, rfl⟩ := (keys_ren outs b).1 hb
            rw [key i hi, key j hj]
            exact hf.holds.inj i j hi hj (fun e => hab (by rw [e])) }
        fresh := fun id hid => by
          obtain ⟨i, hi, rfl⟩ := (keys_ren outs id).1 hid
          rw [key i hi]
          exact (hf.fresh i hi).imp (fun h => (keys_ren ins _).2 ⟨i, h, rfl⟩) (fun h => h)
        ca := by
          rw [CA_ren]
          exact CA.goes (Goes.refl A' w') r v (fun j hj => key2 j (h.shutOut.vals j (by simpa [idsL] using hj))) hf.ca
        anew := hf.anew
        alt := hf.alt
        old := fun b hb hne => hf.old b hb (fun i hi => hne (π i) ((keys_ren ins _).2 ⟨i, hi, rfl⟩))
        os := hf.os
        tape := hf.tape
        output := hf.output
        drawn := hf.drawn
        size := hf.size }
    rcases hrun with ⟨h1, h2⟩ | ⟨v, w', h1, h2⟩
    · exact Or.inl ⟨h1, h2.mono fun e w' ⟨v, he, hv⟩ => ⟨v, he, fin v w' hv⟩⟩
    · exact Or.inr ⟨v, w', h1, fin v w' h2⟩

theorem CAs.mid {A : Nat → Prop} {φ : Nat → Nat} {w : World} : ∀ {xs ys : List AV} {x : AV} {vs : List Value}, CAs A φ w (xs ++ x :: ys) vs → ∃ v, CA A φ w x v ∧ ∀ x', CA A φ w x' v → CAs A φ w (xs ++ x' :: ys) vs
  | [], ys, x, vs, h => by
    simp only [List.nil_append, CAs] at h ⊢
    obtain ⟨z, zs, rfl, h1, h2⟩ := h
    exact ⟨z, h1, fun x' hx => ⟨z, zs, rfl, hx, h2⟩⟩
  | u :: xs, ys, x, vs, h => by
    simp only [List.cons_append, CAs] at h ⊢
    obtain ⟨z, zs, rfl, h1, h2⟩ := h
    obtain ⟨v, hv, hk⟩ := CAs.mid h2
    exact ⟨v, hv, fun x' hx => ⟨z, zs, rfl, h1, hk x' hx⟩⟩

theorem idsL_mid (xs ys : List AV) {x y : AV} (h : x.ids = y.ids) : idsL (xs ++ x :: ys) = idsL (xs ++ y :: ys) := by
  induction xs with
  | nil => simp only [List.nil_append, idsL, h]
  | cons u xs ih => simp only [List.cons_append, idsL, ih]

/-- A slice without elements: at whatever place it stands, nil too. -/
theorem Meets.of_empty {f : FuncId} {xs ys : List AV} {ins outs : List (Nat × Ob)} {r : AV} {sz : Nat} (h : ∀ a c, Meets P E f (xs ++ .t (.v (.slice a 0 c)) :: ys) ins r outs) : Meets P E f (xs ++ .t (.sl sz []) :: ys) ins r outs where
  shutIn := {
    vals := fun i hi => (h none 0).shutIn.vals i (by rw [idsL_mid xs ys (x := .t (.v (.slice none 0 0))) (y := .t (.sl sz [])) rfl]; exact hi)
    objs := (h none 0).shutIn.objs
    live := (h none 0).shutIn.live }
  shutOut := (h none 0).shutOut
  stay := (h none 0).stay
  runs := fun A φ w vals gi gA alt hH hargs => by
    obtain ⟨v, hv, hk⟩ := CAs.mid hargs
    simp only [CA, CT] at hv
    obtain ⟨a, cap, rfl, _, _⟩ := hv
    exact (h a cap).runs A φ w vals gi gA alt hH (hk _ (by simp [CA, CT, Value.oneCell']))
end

theorem shut_of {xs : List AV} {l : List (Nat × Ob)} (h1 : ∀ i ∈ idsL xs, i ∈ keysOf l) (h2 : ∀ p ∈ l, p.2.live = true ∧ ∀ i ∈ p.2.ids, i ∈ keysOf l) : Shut xs l where
  vals := h1
  objs := fun _ _ ho => (h2 _ (stoOf_mem ho)).2
  live := fun _ _ ho => (h2 _ (stoOf_mem ho)).1

theorem Wk.row {sto : Nat → Option Ob} {sn : List Nat} {id sz off len : Nat} {r : Bool} {es : List (List T)} (h : slTrees sz sto (.own id sz off len r) = some es) (hi : id ∈ sn) : Wk sto sn (.own id sz off len r) (.t (.sl sz es)) :=
  ⟨rfl, Or.inl ⟨h, Or.inl hi⟩⟩

theorem Wk.fro {sto : Nat → Option Ob} {sn : List Nat} {id sz off len : Nat} {r : Bool} {es fs : List (List T)} (h : slTrees sz sto (.own id sz off len r) = some es) (hi : sto id = some (.fro sz fs)) : Wk sto sn (.own id sz off len r) (.t (.sl sz es)) :=
  ⟨rfl, Or.inl ⟨h, Or.inr ⟨sz, fs, Or.inl hi⟩⟩⟩

theorem Wk.gone {sto : Nat → Option Ob} {sn : List Nat} {id sz off len : Nat} {r : Bool} {es fs : List (List T)} (h : slTrees sz sto (.own id sz off len r) = some es) (hi : sto id = some (.row sz false fs)) : Wk sto sn (.own id sz off len r) (.t (.sl sz es)) :=
  ⟨rfl, Or.inl ⟨h, Or.inr ⟨sz, fs, Or.inr hi⟩⟩⟩

theorem Wk.rowA {sto : Nat → Option Ob} {sn : List Nat} {id sz len : Nat} {r : Bool} {es : List (List T)} (hi : id ∈ sn) (h : shA sto sn sz len (sto id) = some es) : Wk sto sn (.own id sz 0 len r) (.t (.sl sz es)) :=
  ⟨rfl, Or.inr ⟨hi, rfl, h⟩⟩

theorem Wk.empty {sto : Nat → Option Ob} {sn : List Nat} {sz : Nat} : Wk sto sn (.t (.v (.slice none 0 0))) (.t (.sl sz [])) := rfl

section
variable {P : Program} {E : Env} {io : List Nat} {Q : Exit → St → Prop} {k : List Kt} {env : List (Nat × AV)} {sto : List (Nat × Ob)} {draw : Bool} {prs : List (Nat × Nat)} {vars : List Nat} {id : Nat} {acc : List Rc}

/-- A call that is shown rows, hands in objects, and leaves objects. -/
theorem Cl_io {ops : List SO} {d : Option Nat} {g : FuncId} {as ys : List AV} {r : AV} {ins outs : List (Nat × Ob)} (sn : List Nat) (keep : Bool) (h : Meets P E g ys ins r outs) (hw : Wks (stoOf sto) sn as ys)
    (hin : ∀ i ∈ keysOf ins, stoOf sto i = stoOf ins i) (hnew : ∀ i ∈ keysOf outs, i ∈ keysOf ins ∨ (stoOf sto i = none ∧ 100 ≤ i)) (hs : ∀ i ∈ sn, 100 ≤ i ∧ i ∉ keysOf ins ∧ isRow (stoOf sto i) = true)
    (hk : keep = true → r.plain = true ∧ ∀ i o, stoOf outs i = some o → o.plain) (nd : (keysOf outs).Nodup)
    (hr : R P E io Q draw prs vars k (id + 1) ops (if draw then acc ++ [⟨r, idsL as ++ keysOf outs ++ sn, outs ++ (if keep then [] else froze (stoOf sto) sn)⟩] else acc) (match d with | some d => (d, r) :: env | none => env) (outs ++ (if keep then [] else froze (stoOf sto) sn) ++ sto)) :
    Cl P E io Q draw prs vars k id ops acc d env sto (.fn g [] []) as := by
  refine ⟨g, [], [], rfl, r, ins, outs, sn, keep, ys, ?_, ?_⟩
  · exact { meets := h, wk := by simpa using hw, insOk := hin, newOk := hnew, snOk := hs, keepOk := hk, nd := nd }
  · have e : ([] : List AV) ++ as ++ [] = as := by simp
    rw [e]; exact hr

/-- A call that leaves objects. -/
theorem Cl_new {ops : List SO} {d : Option Nat} {g : FuncId} {xs : List AV} {r : AV} {outs : List (Nat × Ob)} (h : Meets P E g xs [] r outs) (hnew : ∀ i ∈ keysOf outs, stoOf sto i = none ∧ 100 ≤ i) (nd : (keysOf outs).Nodup)
    (hr : R P E io Q draw prs vars k (id + 1) ops (if draw then acc ++ [⟨r, idsL xs ++ keysOf outs, outs⟩] else acc) (match d with | some d => (d, r) :: env | none => env) (outs ++ sto)) :
    Cl P E io Q draw prs vars k id ops acc d env sto (.fn g [] []) xs :=
  Cl_io [] false h (Wks.refl xs) (by simp [keysOf]) (fun i hi => Or.inr (hnew i hi)) (by simp) (by simp) nd (by simpa [keysOf, froze] using hr)

/-- A call that is handed objects, and leaves them. -/
theorem Cl_obj {ops : List SO} {d : Option Nat} {g : FuncId} {xs : List AV} {r : AV} {ins outs : List (Nat × Ob)} (h : Meets P E g xs ins r outs) (hin : ∀ i ∈ keysOf ins, stoOf sto i = stoOf ins i) (hk : keysOf outs = keysOf ins) (nd : (keysOf ins).Nodup)
    (hr : R P E io Q draw prs vars k (id + 1) ops (if draw then acc ++ [⟨r, idsL xs ++ keysOf outs, outs⟩] else acc) (match d with | some d => (d, r) :: env | none => env) (outs ++ sto)) :
    Cl P E io Q draw prs vars k id ops acc d env sto (.fn g [] []) xs :=
  Cl_io [] false h (Wks.refl xs) hin (fun i hi => Or.inl (by rw [← hk]; exact hi)) (by simp) (by simp) (by rw [hk]; exact nd) (by simpa [keysOf, froze] using hr)

/-- A call that is shown rows, which are written no more. -/
theorem Cl_show {ops : List SO} {d : Option Nat} {g : FuncId} {as ys : List AV} {r : AV} (sn : List Nat) (h : Meets P E g ys [] r []) (hw : Wks (stoOf sto) sn as ys)
    (hs : ∀ i ∈ sn, 100 ≤ i ∧ isRow (stoOf sto i) = true)
    (hr : R P E io Q draw prs vars k (id + 1) ops (if draw then acc ++ [⟨r, idsL as ++ sn, froze (stoOf sto) sn⟩] else acc) (match d with | some d => (d, r) :: env | none => env) (froze (stoOf sto) sn ++ sto)) :
    Cl P E io Q draw prs vars k id ops acc d env sto (.fn g [] []) as :=
  Cl_io sn false h hw (by simp [keysOf]) (by simp [keysOf]) (fun i hi => ⟨(hs i hi).1, by simp [keysOf], (hs i hi).2⟩) (by simp) (by simp [keysOf]) (by simpa [keysOf] using hr)

/-- The end of a function that leaves objects, or shows rows as trees. -/
theorem wends2 {res : List RV} {r : AV} {e : Exit} {outs : List (Nat × Ob)} (rn : List (Nat × Nat)) (sn : List Nat) (he : e = .ret ∨ e = .normal) (hr : ∃ raw, (resL env sto res).map packR = some raw ∧ wkV (stoOf sto) sn (ren rn) raw r) (hi : ∀ i ∈ r.ids, i ∈ keysOf outs)
    (h2 : stoS sto sn rn outs outs) (h3 : ((keysOf outs).map (ren rn)).Nodup)
    (h4 : ∀ i ∈ sn, 100 ≤ i ∧ isRow (stoOf sto i) = true ∧ ∀ j ∈ keysOf outs, ren rn j ≠ i) (h5 : ∀ i ∈ io, ren rn i = i) (h6 : ∀ i ∈ keysOf outs, ren rn i ∈ io → i = ren rn i) :
    SEnds io res r outs e ⟨envOf env, stoOf sto⟩ := by
  obtain ⟨raw, hr, hw⟩ := hr
  cases hl : resL env sto res with
  | none => rw [hl] at hr; cases hr
  | some raws =>
  rw [hl] at hr
  have hp : packR raws = raw := Option.some.inj hr
  refine ⟨by rcases he with rfl | rfl <;> trivial, raws, by rw [resL_eq]; exact hl, ⟨ren rn, sn, ⟨fun id o ho => (stoS_ok h2 id o ho).1, fun id o ho => (stoS_ok h2 id o ho).2,
    fun i j oi oj hi hj _ _ e => nodup_inj h3 i j (in_keys hi) (in_keys hj) e,
    fun i hi => ⟨(h4 i hi).1, (h4 i hi).2.1, fun id o ho _ => (h4 i hi).2.2 id (in_keys ho)⟩⟩, fun k => ?_, fun k i hk => ?_, h5, fun id hid => h6 id (stoOf_some.1 hid)⟩⟩
  · simp only [oneE, hp]
    split
    · exact hw
    · simp only [wkV]
  · simp only [oneE] at hk
    split at hk
    · exact stoOf_some.2 (hi i hk)
    · simp [AV.ids] at hk
end

@[simp] theorem wkLL_snoc {s : Nat → Option Ob} {sn : List Nat} {π : Nat → Nat} {x y : List AV} : ∀ {xs ys : List (List AV)}, wkLL s sn π (xs ++ [x]) (ys ++ [y]) ↔ wkLL s sn π xs ys ∧ wkL s sn π x y
  | [], [] => by simp [wkLL]
  | [], b :: ys => by cases ys <;> simp [wkLL]
  | a :: xs, [] => by cases xs <;> simp [wkLL]
  | a :: xs, b :: ys => by simp only [List.cons_append, wkLL, wkLL_snoc (xs := xs) (ys := ys), and_assoc]

theorem wkL_t {s : Nat → Option Ob} {sn : List Nat} {π : Nat → Nat} : ∀ l : List T, wkL s sn π (l.map .t) (l.map .t)
  | [] => by simp [wkL]
  | .v x :: l => by simp only [List.map_cons, wkL, wkV]; exact ⟨trivial, wkL_t l⟩
  | .sl a b :: l => by simp only [List.map_cons, wkL, wkV]; exact ⟨Or.inl trivial, wkL_t l⟩

@[simp] theorem wkLL_t {s : Nat → Option Ob} {sn : List Nat} {π : Nat → Nat} : ∀ l : List (List T), wkLL s sn π (l.map (List.map AV.t)) (l.map (List.map AV.t)) = True
  | [] => by simp [wkLL]
  | x :: l => by
    apply propext
    simp only [List.map_cons, wkLL, iff_true]
    exact ⟨wkL_t x, (wkLL_t l).symm ▸ trivial⟩

theorem cellsT_t {s : Nat → Option Ob} {sn : List Nat} : ∀ l : List T, cellsT s sn (l.map .t) = some l
  | [] => rfl
  | x :: l => by simp only [List.map_cons, cellsT, cellT, cellsT_t l]

@[simp] theorem rowsT_t {s : Nat → Option Ob} {sn : List Nat} : ∀ l : List (List T), rowsT s sn (l.map (List.map AV.t)) = some l
  | [] => rfl
  | x :: l => by simp only [List.map_cons, rowsT, cellsT_t, rowsT_t l]

@[simp] theorem rowsT_snoc {s : Nat → Option Ob} {sn : List Nat} {x : List AV} : ∀ l : List (List T), rowsT s sn (l.map (List.map AV.t) ++ [x]) = (cellsT s sn x).map fun c => l ++ [c]
  | [] => by simp only [List.map_nil, List.nil_append, rowsT]; cases cellsT s sn x <;> rfl
  | y :: l => by
    simp only [List.map_cons, List.cons_append, rowsT, cellsT_t, rowsT_snoc l]
    cases cellsT s sn x <;> rfl

theorem stoOf_ls (k : Nat) (l : List (Nat × Ob)) : stoOf l k = ls k l := rfl
theorem froze_nil (f : Nat → Option Ob) : froze f [] = [] := rfl

attribute [go_sem] froze stoOf_ls

end Go.Sx

namespace Go.Sx

theorem wrap_u64 (n : Int) : IntKind.u64.wrap n = n % 18446744073709551616 := by simp [IntKind.wrap, IntKind.bits, IntKind.signed]
theorem wrap_u8 (n : Int) : IntKind.u8.wrap n = n % 256 := by simp [IntKind.wrap, IntKind.bits, IntKind.signed]
theorem wrap_i64 (n : Int) : IntKind.i64.wrap n = if n % 18446744073709551616 ≥ 9223372036854775808 then n % 18446744073709551616 - 18446744073709551616 else n % 18446744073709551616 := by simp [IntKind.wrap, IntKind.bits, IntKind.signed]
theorem wrap_i64_of {n : Int} (h1 : -9223372036854775808 ≤ n) (h2 : n < 9223372036854775808) : IntKind.i64.wrap n = n := by rw [wrap_i64]; split <;> omega

theorem u64_wrap_nat (n : Nat) : IntKind.u64.wrap (n : Int) = ((n % 18446744073709551616 : Nat) : Int) := by rw [wrap_u64]; omega

theorem u64_add (a b : Nat) : binInt .add .u64 a b = some (.int .u64 ((a + b) % 18446744073709551616 : Nat)) := by
  simp only [binInt]; rw [← Int.natCast_add, u64_wrap_nat]
theorem u64_mul (a b : Nat) : binInt .mul .u64 a b = some (.int .u64 ((a * b) % 18446744073709551616 : Nat)) := by
  simp only [binInt]; rw [← Int.natCast_mul, u64_wrap_nat]
theorem u64_sub (a b : Nat) : binInt .sub .u64 a b = some (.int .u64 ((a + 18446744073709551616 - b % 18446744073709551616) % 18446744073709551616 : Nat)) := by
  simp only [binInt]; rw [wrap_u64]
  congr 2
  omega
theorem u64_quo {a b : Nat} (h : ¬ b = 0) : binInt .quo .u64 a b = some (.int .u64 (a / b % 18446744073709551616 : Nat)) := by
  have hb : ¬ ((b : Int) = 0) := by omega
  simp only [binInt, if_neg hb]
  rw [← Int.ofNat_tdiv, u64_wrap_nat]
theorem u64_rem {a b : Nat} (h : ¬ b = 0) : binInt .rem .u64 a b = some (.int .u64 (a % b : Nat)) := by
  have hb : ¬ ((b : Int) = 0) := by omega
  simp only [binInt, if_neg hb]
  rw [← Int.ofNat_tmod]
theorem bv_nat (a : Nat) : BitVec.ofInt 64 (a : Int) = BitVec.ofNat 64 a := by
  apply BitVec.eq_of_toNat_eq; simp
theorem u64_and (a b : Nat) : binInt .and .u64 a b = some (.int .u64 ((a % 18446744073709551616) &&& (b % 18446744073709551616) : Nat)) := by
  show some (Value.int .u64 (IntKind.u64.wrap ((BitVec.ofInt 64 (a : Int) &&& BitVec.ofInt 64 (b : Int)).toNat))) = _
  rw [bv_nat, bv_nat, u64_wrap_nat]
  congr 3
  rw [BitVec.toNat_and, BitVec.toNat_ofNat, BitVec.toNat_ofNat]
  exact Nat.mod_eq_of_lt (Nat.and_lt_two_pow (n := 64) _ (Nat.mod_lt _ (by decide)))
theorem u64_or (a b : Nat) : binInt .or .u64 a b = some (.int .u64 ((a % 18446744073709551616) ||| (b % 18446744073709551616) : Nat)) := by
  show some (Value.int .u64 (IntKind.u64.wrap ((BitVec.ofInt 64 (a : Int) ||| BitVec.ofInt 64 (b : Int)).toNat))) = _
  rw [bv_nat, bv_nat, u64_wrap_nat]
  congr 3
  rw [BitVec.toNat_or, BitVec.toNat_ofNat, BitVec.toNat_ofNat]
  exact Nat.mod_eq_of_lt (Nat.or_lt_two_pow (n := 64) (Nat.mod_lt _ (by decide)) (Nat.mod_lt _ (by decide)))
theorem u64_xor (a b : Nat) : binInt .xor .u64 a b = some (.int .u64 ((a % 18446744073709551616) ^^^ (b % 18446744073709551616) : Nat)) := by
  show some (Value.int .u64 (IntKind.u64.wrap ((BitVec.ofInt 64 (a : Int) ^^^ BitVec.ofInt 64 (b : Int)).toNat))) = _
  rw [bv_nat, bv_nat, u64_wrap_nat]
  congr 3
  rw [BitVec.toNat_xor, BitVec.toNat_ofNat, BitVec.toNat_ofNat]
  exact Nat.mod_eq_of_lt (Nat.xor_lt_two_pow (n := 64) (Nat.mod_lt _ (by decide)) (Nat.mod_lt _ (by decide)))
theorem nn (n : Nat) : ¬ ((n : Int) < 0) := by omega
theorem u64_shl (a s : Nat) : binShift .shl .u64 a s = some (.int .u64 ((a * 2 ^ (min s 64)) % 18446744073709551616 : Nat)) := by
  simp only [binShift, if_neg (nn s), IntKind.bits, Int.toNat_natCast]
  rw [show ((a : Int) * 2 ^ (min s 64)) = ((a * 2 ^ (min s 64) : Nat) : Int) by simp, u64_wrap_nat]
theorem u64_shr (a s : Nat) : binShift .shr .u64 a s = some (.int .u64 (a / 2 ^ (min s 64) : Nat)) := by
  simp only [binShift, if_neg (nn s), IntKind.bits, Int.toNat_natCast]
  rw [show ((2 : Int) ^ (min s 64)) = ((2 ^ (min s 64) : Nat) : Int) by simp]
  rw [Int.fdiv_eq_ediv_of_nonneg _ (Int.natCast_nonneg _), ← Int.natCast_ediv]
theorem un_lss (k : IntKind) (a b : Nat) : binInt .lss k a b = some (.bool (decide (a < b))) := by simp [binInt]
theorem un_leq (k : IntKind) (a b : Nat) : binInt .leq k a b = some (.bool (decide (a ≤ b))) := by simp [binInt]
theorem un_gtr (k : IntKind) (a b : Nat) : binInt .gtr k a b = some (.bool (decide (b < a))) := by simp [binInt]
theorem un_geq (k : IntKind) (a b : Nat) : binInt .geq k a b = some (.bool (decide (b ≤ a))) := by simp [binInt]
theorem beq_nat (a b : Nat) : ((a : Int) == (b : Int)) = decide (a = b) := by
  rw [Bool.eq_iff_iff]; simp; omega
theorem un_eql (k : IntKind) (a b : Nat) : binInt .eql k a b = some (.bool (decide (a = b))) := by
  simp only [binInt, beq_nat]
theorem un_neq (k : IntKind) (a b : Nat) : binInt .neq k a b = some (.bool (!decide (a = b))) := by
  simp only [binInt, bne, beq_nat]

/-- Numbers with a sign: as they are. -/
theorem i64_add (a b : Int) : binInt .add .i64 a b = some (.int .i64 (IntKind.i64.wrap (a + b))) := rfl
theorem i64_sub (a b : Int) : binInt .sub .i64 a b = some (.int .i64 (IntKind.i64.wrap (a - b))) := rfl
theorem i64_mul (a b : Int) : binInt .mul .i64 a b = some (.int .i64 (IntKind.i64.wrap (a * b))) := rfl
theorem i64_quo {a b : Int} (h : ¬ b = 0) : binInt .quo .i64 a b = some (.int .i64 (IntKind.i64.wrap (a.tdiv b))) := by simp [binInt, h]
theorem i64_rem {a b : Int} (h : ¬ b = 0) : binInt .rem .i64 a b = some (.int .i64 (a.tmod b)) := by simp [binInt, h]
theorem i64_lss (a b : Int) : binInt .lss .i64 a b = some (.bool (decide (a < b))) := rfl
theorem i64_leq (a b : Int) : binInt .leq .i64 a b = some (.bool (decide (a ≤ b))) := rfl
theorem i64_gtr (a b : Int) : binInt .gtr .i64 a b = some (.bool (decide (b < a))) := rfl
theorem i64_geq (a b : Int) : binInt .geq .i64 a b = some (.bool (decide (b ≤ a))) := rfl
theorem i64_eql (a b : Int) : binInt .eql .i64 a b = some (.bool (decide (a = b))) := rfl
theorem i64_neq (a b : Int) : binInt .neq .i64 a b = some (.bool (!decide (a = b))) := rfl

theorem u8_wrap_nat (n : Nat) : IntKind.u8.wrap (n : Int) = ((n % 256 : Nat) : Int) := by rw [wrap_u8]; omega
theorem u8_shr (a s : Nat) : binShift .shr .u8 a s = some (.int .u8 (a / 2 ^ (min s 8) : Nat)) := by
  simp only [binShift, if_neg (nn s), IntKind.bits, Int.toNat_natCast]
  rw [show ((2 : Int) ^ (min s 8)) = ((2 ^ (min s 8) : Nat) : Int) by simp]
  rw [Int.fdiv_eq_ediv_of_nonneg _ (Int.natCast_nonneg _), ← Int.natCast_ediv]
theorem i64_shr_nat (a s : Nat) : binShift .shr .i64 a s = some (.int .i64 (a / 2 ^ (min s 64) : Nat)) := by
  simp only [binShift, if_neg (nn s), IntKind.bits, Int.toNat_natCast]
  rw [show ((2 : Int) ^ (min s 64)) = ((2 ^ (min s 64) : Nat) : Int) by simp]
  rw [Int.fdiv_eq_ediv_of_nonneg _ (Int.natCast_nonneg _), ← Int.natCast_ediv]
theorem bv_nat8 (a : Nat) : BitVec.ofInt 8 (a : Int) = BitVec.ofNat 8 a := by
  apply BitVec.eq_of_toNat_eq; simp
theorem u8_and (a b : Nat) : binInt .and .u8 a b = some (.int .u8 ((a % 256) &&& (b % 256) : Nat)) := by
  show some (Value.int .u8 (IntKind.u8.wrap ((BitVec.ofInt 8 (a : Int) &&& BitVec.ofInt 8 (b : Int)).toNat))) = _
  rw [bv_nat8, bv_nat8, u8_wrap_nat]
  congr 3
  rw [BitVec.toNat_and, BitVec.toNat_ofNat, BitVec.toNat_ofNat]
  exact Nat.mod_eq_of_lt (Nat.and_lt_two_pow (n := 8) _ (Nat.mod_lt _ (by decide)))
theorem u8_or (a b : Nat) : binInt .or .u8 a b = some (.int .u8 ((a % 256) ||| (b % 256) : Nat)) := by
  show some (Value.int .u8 (IntKind.u8.wrap ((BitVec.ofInt 8 (a : Int) ||| BitVec.ofInt 8 (b : Int)).toNat))) = _
  rw [bv_nat8, bv_nat8, u8_wrap_nat]
  congr 3
  rw [BitVec.toNat_or, BitVec.toNat_ofNat, BitVec.toNat_ofNat]
  exact Nat.mod_eq_of_lt (Nat.or_lt_two_pow (n := 8) (Nat.mod_lt _ (by decide)) (Nat.mod_lt _ (by decide)))
theorem u8_add (a b : Nat) : binInt .add .u8 a b = some (.int .u8 ((a + b) % 256 : Nat)) := by
  simp only [binInt]; rw [← Int.natCast_add, u8_wrap_nat]
theorem u8_sub (a b : Nat) : binInt .sub .u8 a b = some (.int .u8 ((a + 256 - b % 256) % 256 : Nat)) := by
  simp only [binInt]; rw [wrap_u8]
  congr 2
  omega
theorem u8_quo {a b : Nat} (h : ¬ b = 0) : binInt .quo .u8 a b = some (.int .u8 (a / b % 256 : Nat)) := by
  have hb : ¬ ((b : Int) = 0) := by omega
  simp only [binInt, if_neg hb]
  rw [← Int.ofNat_tdiv, u8_wrap_nat]
theorem u8_rem {a b : Nat} (h : ¬ b = 0) : binInt .rem .u8 a b = some (.int .u8 (a % b : Nat)) := by
  have hb : ¬ ((b : Int) = 0) := by omega
  simp only [binInt, if_neg hb]
  rw [← Int.ofNat_tmod]
/-- And, of two that are not below zero. -/
theorem i64_and_nat {a b : Nat} (ha : a < 9223372036854775808) (hb : b < 9223372036854775808) : binInt .and .i64 a b = some (.int .i64 ((a &&& b : Nat) : Int)) := by
  show some (Value.int .i64 (IntKind.i64.wrap ((BitVec.ofInt 64 (a : Int) &&& BitVec.ofInt 64 (b : Int)).toNat))) = _
  rw [bv_nat, bv_nat]
  have h : (BitVec.ofNat 64 a &&& BitVec.ofNat 64 b).toNat = a &&& b := by
    rw [BitVec.toNat_and, BitVec.toNat_ofNat, BitVec.toNat_ofNat, Nat.mod_eq_of_lt (by omega), Nat.mod_eq_of_lt (by omega)]
  have h2 : a &&& b ≤ a := Nat.and_le_left
  rw [h, wrap_i64_of (by omega) (by omega)]

theorem sdiv {a b : Int} (h : 0 ≤ a) : a.tdiv b = a / b := Int.tdiv_eq_ediv_of_nonneg h
theorem smod {a b : Int} (h : 0 ≤ a) : a.tmod b = a % b := Int.tmod_eq_emod_of_nonneg h

attribute [go_sem] u8_shr i64_shr_nat u8_and u8_or u8_add u8_sub u8_quo u8_rem
attribute [go_sem] u64_add u64_mul u64_sub u64_and u64_or u64_xor u64_shl u64_shr un_lss un_leq un_gtr un_geq un_eql un_neq u64_quo u64_rem
  i64_add i64_sub i64_mul i64_quo i64_rem i64_lss i64_leq i64_gtr i64_geq i64_eql i64_neq beq_nat

attribute [go_sem] Int.natCast_nonneg List.getElem?_map Int.toNat_natCast List.length_map List.replicate_zero Bool.bne_false Bool.bne_true List.length_replicate List.isEmpty_cons List.isEmpty_nil Nat.le_refl Int.le_refl Int.sub_zero Int.sub_self ne_eq List.length_append Int.toNat_zero Nat.zero_mul Nat.mul_one Nat.one_mul

/-- A function's slim code: its contract by a walk over it. -/
abbrev Slk (P : Program) (E : Env) (f n : Nat) (sc : SC) (rv : List RV) : Prop := ∀ {args : List AV} {ins outs : List (Nat × Ob)} {r : AV}, args.length ≤ n → Shut args ins → Shut [r] outs → (∀ i ∈ keysOf ins, i ∈ keysOf outs) → (∀ i ∈ keysOf ins, i < 100) →
  W P E (keysOf ins) (SEnds (keysOf ins) rv r outs) sc [] (argL 0 args) ins → Meets P E f args ins r outs

theorem slk_of {P : Program} {E : Env} {G : Nat → Option (List T)} (hm : P.follows .mixedOrders = true) (hG : GOK E G) {f : FuncId} {fn : Func} {c : Code} {n b' : Nat} {sc : SC} {vars : List Nat} {rv : List RV} (hf : P.funcs[f]? = some fn) (hb : fn.body = some c)
    (hname : (fn.name == "runtime.NumGoroutine") = false) (hsl : slimC P G n vars 100 c = some (sc, b')) (hn : fn.ntmps = n) (hres : slimRes P fn.results.toList = some rv) : Slk P E f n sc rv :=
  fun hlen h1 h2 h3 hio hw => meets_of hm hG hf hb hname hsl hn hres hlen h1 h2 h3 hio (wstart hw)

end Go.Sx

namespace Go.Sx

section
variable {P : Program} {E : Env} {io : List Nat} {Q : Exit → St → Prop} {k : List Kt} {env : List (Nat × AV)} {sto : List (Nat × Ob)} {draw : Bool} {prs : List (Nat × Nat)} {vars : List Nat} {id : Nat} {acc : List Rc}

theorem wE {res : List RV} {r : AV} {e : Exit} (hr : (resL env sto res).map packR = some r) (he : e = .ret ∨ e = .normal := by first | exact Or.inl rfl | exact Or.inr rfl) (hi : r.ids = [] := by first | rfl | simp [AV.ids, idsL]) : SEnds [] res r [] e ⟨envOf env, stoOf sto⟩ :=
  wends he hr hi

theorem rF (h2 : B P E io Q k .normal (keepL env vars) sto) (h1 : okPairs prs acc := by repeat' (first | exact okp0 | refine okp rfl rfl rfl ?_)) : R P E io Q draw prs vars k id [] acc env sto := R_fin h1 h2

theorem wS {res : List RV} {r : AV} {e : Exit} {outs : List (Nat × Ob)} (sn : List Nat) (hr : ∃ raw, (resL env sto res).map packR = some raw ∧ wkV (stoOf sto) sn (ren []) raw r) (he : e = .ret ∨ e = .normal := by first | exact Or.inl rfl | exact Or.inr rfl)
    (hi : ∀ i ∈ r.ids, i ∈ keysOf outs := by simp [AV.ids, idsL]) (h2 : stoS sto sn [] outs outs := by simp [stoS]) (h3 : ((keysOf outs).map (ren [])).Nodup := by simp [keysOf])
    (h4 : ∀ i ∈ sn, 100 ≤ i ∧ isRow (stoOf sto i) = true ∧ ∀ j ∈ keysOf outs, ren [] j ≠ i := by simp [stoOf, keysOf] <;> assumption) (h5 : ∀ i ∈ io, ren [] i = i := by simp [keysOf]) (h6 : ∀ i ∈ keysOf outs, ren [] i ∈ io → i = ren [] i := by simp [keysOf]) :
    SEnds io res r outs e ⟨envOf env, stoOf sto⟩ := wends2 [] sn he hr hi h2 h3 h4 h5 h6

theorem wO {res : List RV} {r : AV} {e : Exit} {outs : List (Nat × Ob)} (rn : List (Nat × Nat)) (sn : List Nat) (hr : ∃ raw, (resL env sto res).map packR = some raw ∧ wkV (stoOf sto) sn (ren rn) raw r) (he : e = .ret ∨ e = .normal := by first | exact Or.inl rfl | exact Or.inr rfl)
    (hi : ∀ i ∈ r.ids, i ∈ keysOf outs := by simp [AV.ids, idsL, keysOf]) (h2 : stoS sto sn rn outs outs := by simp [stoS, wkO, ls_cons, ls_nil, stoOf, ren, keysOf, Ob.ids, wkV, wkL, AV.one, idsL, AV.ids] <;> assumption) (h3 : ((keysOf outs).map (ren rn)).Nodup := by simp [keysOf, ren])
    (h4 : ∀ i ∈ sn, 100 ≤ i ∧ isRow (stoOf sto i) = true ∧ ∀ j ∈ keysOf outs, ren rn j ≠ i := by simp [stoOf, keysOf, ren]) (h5 : ∀ i ∈ io, ren rn i = i := by simp [keysOf, ren]) (h6 : ∀ i ∈ keysOf outs, ren rn i ∈ io → i = ren rn i := by simp [keysOf, ren]) :
    SEnds io res r outs e ⟨envOf env, stoOf sto⟩ := wends2 rn sn he hr hi h2 h3 h4 h5 h6

theorem sR {env' : List (Nat × AV)} {sto' : List (Nat × Ob)} (rn : List (Nat × Nat)) (sn : List Nat)
    (h1 : envS sto sn rn env sto' env' := by simp [envS, go_sem, wkV, wkL, AV.ids, idsL, keysOf, ren, stoOf, slTrees, AV.asOwn, rowPart, AV.isNil, shA, rowsT, cellsT, cellT, wkLL] <;> assumption)
    (h2 : stoS sto sn rn sto' sto' := by simp [stoS, go_sem, wkV, wkL, wkO, AV.ids, Ob.ids, idsL, keysOf, ren, AV.one, stoOf, slTrees, AV.asOwn, rowPart, AV.isNil, shA, rowsT, cellsT, cellT, wkLL] <;> assumption)
    (h3 : ((keysOf sto').map (ren rn)).Nodup := by simp [keysOf, ren]) (h4 : ∀ i ∈ sn, 100 ≤ i ∧ isRow (stoOf sto i) = true ∧ ∀ j ∈ keysOf sto', ren rn j ≠ i := by simp [stoOf, keysOf, ren])
    (h5 : ∀ i ∈ io, ren rn i = i := by simp [keysOf, ren]) (h6 : ∀ i ∈ keysOf sto', ren rn i ∈ io → i = ren rn i := by simp [keysOf, ren]) :
    Sub io ⟨envOf env, stoOf sto⟩ ⟨envOf env', stoOf sto'⟩ := subL rn sn h1 h2 h3 h4 h5 h6

theorem sR0 {env' : List (Nat × AV)} {sto' : List (Nat × Ob)}
    (h1 : envS sto [] [] env sto' env' := by simp [envS, go_sem, wkV, wkL, AV.ids, idsL, keysOf, ren]) (h2 : stoS sto [] [] sto' sto' := by simp [stoS, go_sem, wkV, wkL, wkO, AV.ids, Ob.ids, idsL, keysOf, ren, AV.one])
    (h3 : ((keysOf sto').map (ren [])).Nodup := by simp [keysOf, ren]) (h5 : ∀ i ∈ io, ren [] i = i := by simp [keysOf]) (h6 : ∀ i ∈ keysOf sto', ren [] i ∈ io → i = ren [] i := by simp [keysOf]) :
    Sub io ⟨envOf env, stoOf sto⟩ ⟨envOf env', stoOf sto'⟩ := subL [] [] h1 h2 h3 (by simp) h5 h6

theorem oB {ops : List SO} {d : Option Nat} {g : FuncId} {xs : List AV} {r : AV} {ins outs : List (Nat × Ob)} (h : Meets P E g xs ins r outs)
    (hr : R P E io Q draw prs vars k (id + 1) ops (if draw then acc ++ [⟨r, idsL xs ++ keysOf outs, outs⟩] else acc) (match d with | some d => (d, r) :: env | none => env) (outs ++ sto))
    (hin : ∀ i ∈ keysOf ins, stoOf sto i = stoOf ins i := by simp [keysOf, stoOf]) (hk : keysOf outs = keysOf ins := by simp [keysOf]) (nd : (keysOf ins).Nodup := by simp [keysOf]) :
    Cl P E io Q draw prs vars k id ops acc d env sto (.fn g [] []) xs := Cl_obj h hin hk nd hr

theorem st0 {f n : Nat} {sc : SC} {rv : List RV} {args : List AV} {r : AV} (h : Slk P E f n sc rv) (hw : W P E (keysOf []) (SEnds (keysOf []) rv r []) sc [] (argL 0 args) []) (h1 : args.length ≤ n := by simp) (h2 : idsL args = [] := by rfl) (h3 : idsL [r] = [] := by rfl) : Meets P E f args [] r [] :=
  h h1 (shut0 h2) (shut0 h3) (by simp) (by simp [keysOf]) hw
end

end Go.Sx

/-! ### Slim code in fewer words -/
namespace Go.Sl
open Go.Sx
abbrev o (d : Nat) (x : SOp) : SO := ⟨some d, .op x, none⟩
abbrev p (x : SOp) : SO := ⟨none, .op x, none⟩
abbrev g (d c : Nat) (b : Bool) (x : SOp) : SO := ⟨some d, .op x, some (c, b)⟩
abbrev c (d : Nat) (f : SV) (l : List SV) : SO := ⟨some d, .call f l, none⟩
abbrev m (d s : Nat) : SO := ⟨some d, .op (.mv (.tm s)), none⟩
abbrev t (n : Nat) : SV := .tm n
abbrev z (n : Int) : SV := .c (.t (.v (.int .i64 n)))
abbrev bo (b : Bool) : SV := .c (.t (.v (.bool b)))
abbrev nl : SV := .c (.t (.v (.slice none 0 0)))
abbrev fn (n : Nat) : SV := .c (.fn n [] [])
abbrev q (b : Nat) (l : List SO) (v : List Nat) : SC := .reg b l false [] v
end Go.Sl

namespace Go.Sx

/-- A function that answers at once and leaves the world as it is. -/
theorem meets_now {P : Program} {E : Env} {f : FuncId} {args : List AV} {r : AV} (ha : idsL args = []) (hr : r.ids = [])
    (h : ∀ (A : Nat → Prop) (φ : Nat → Nat) (w : World) (vals : Array Value), CAs A φ w args vals.toList → ∃ v, (callFunc f vals).run P w = .ok (.value v) w ∧ CA A φ w r v) : Meets P E f args [] r [] where
  shutIn := shut0 ha
  shutOut := shut0 (by simp [idsL, hr])
  stay := by simp
  runs := by
    intro A φ w vals hg hgb hA hh ha
    obtain ⟨v, h1, h2⟩ := h A φ w vals ha
    refine Or.inr ⟨v, w, h1, A, φ, ?_⟩
    exact ⟨Goes.refl A w, by simp, hh, by simp [keysOf], h2, fun b hb => Or.inl hb, hA, fun _ _ _ => rfl, rfl, rfl, rfl, fun _ => Nat.le_refl _, Nat.le_refl _⟩

/-- 'bits.Add64'. -/
theorem add64_meets {P : Program} {E : Env} {f : FuncId} {fn : Func} (hf : P.funcs[f]? = some fn) (hname : (fn.name == "runtime.NumGoroutine") = false)
    (hb : fn.body.isNone = true) (hn : Extern.findNext fn = none) (he : Extern.find fn = some add64Entry) (x y c : Nat) (hc : c ≤ 1) :
    Meets P E f [U x, U y, U c] [] (.tp [U ((x + y + c) % 18446744073709551616 : Nat), U ((x + y + c) / 18446744073709551616 : Nat)]) [] := by
  refine meets_now rfl rfl fun A φ w vals hv => ?_
  simp only [CAs] at hv
  obtain ⟨a, _, e1, ha, b, _, rfl, hb', d, _, rfl, hd, rfl⟩ := hv
  obtain ⟨rfl, _⟩ := ca_v ha
  obtain ⟨rfl, _⟩ := ca_v hb'
  obtain ⟨rfl, _⟩ := ca_v hd
  have e2 : vals = #[.int .u64 x, .int .u64 y, .int .u64 c] := by cases vals; simp_all
  subst e2
  refine ⟨_, by rw [run_callFunc_extern hf hname hb hn he, run_add64 _ _ _ (by omega) (by omega) (by omega) (by omega)]; rfl, ?_⟩
  simp only [CA, CAs, CT]
  refine ⟨_, rfl, _, _, rfl, ⟨?_, rfl⟩, _, _, rfl, ⟨?_, rfl⟩, rfl⟩
  · congr 1
  · congr 1
end Go.Sx
