/- Contracts by other names; calls that show rows or change objects; ends that leave objects. No statement of a seat is proved here. -/
import Derived.Test.YtgmpceijcdimkaaGreatDoorSxF
import Derived.Laws.Externs
set_option linter.unusedSimpArgs false
set_option linter.unusedVariables false
namespace Go.Sx

mutual
/-- Other names for objects. -/
def A0z (π : Nat → Nat) : AV → AV
 | .ag cs => .ag (A1y π cs)
 | .tp cs => .tp (A1y π cs)
 | .ptr i o => .ptr (π i) o
 | .ept i s j o => .ept (π i) s j o
 | .own i s o l r => .own (π i) s o l r
 | .fn f a b => .fn f (A1y π a) (A1y π b)
 | .t x => .t x
 | .ipt cs => .ipt cs
 | .ifc b => .ifc b
 | .undef => .undef
def A1y (π : Nat → Nat) : List AV → List AV
 | [] => []
 | x :: xs => A0z π x :: A1y π xs
end

def A6v (π : Nat → Nat) : Ob → Ob
 | .box cs => .box (A1y π cs)
 | .row s r es => .row s r es
 | .fro s es => .fro s es
 | .rowA s es => .rowA s (es.map (A1y π))
 | .dead => .dead

def A6i (π : Nat → Nat) : List (Nat × Ob) → List (Nat × Ob)
 | [] => []
 | (i, o) :: l => (π i, A6v π o) :: A6i π l

mutual
theorem E01 {π : Nat → Nat} : ∀ (x : AV) (i : Nat), i ∈ (A0z π x).ids → ∃ j ∈ x.ids, i = π j
 | .ag cs, i, h => by simp only [A0z, AV.ids] at h ⊢; exact A5b cs i h
 | .tp cs, i, h => by simp only [A0z, AV.ids] at h ⊢; exact A5b cs i h
 | .ptr j o, i, h => by simp only [A0z, AV.ids, List.mem_singleton] at h ⊢; exact ⟨j, rfl, h⟩
 | .ept j s k o, i, h => by simp only [A0z, AV.ids, List.mem_singleton] at h ⊢; exact ⟨j, rfl, h⟩
 | .own j s o l r, i, h => by simp only [A0z, AV.ids, List.mem_singleton] at h ⊢; exact ⟨j, rfl, h⟩
 | .fn f a b, i, h => by
  simp only [A0z, AV.ids, List.mem_append] at h ⊢
  rcases h with h | h
  ·obtain ⟨j, hj, e⟩ := A5b a i h; exact ⟨j, Or.inl hj, e⟩
  ·obtain ⟨j, hj, e⟩ := A5b b i h; exact ⟨j, Or.inr hj, e⟩
 | .t x, i, h => by simp [A0z, AV.ids] at h
 | .ipt cs, i, h => by simp [A0z, AV.ids] at h
 | .ifc b, i, h => by simp [A0z, AV.ids] at h
 | .undef, i, h => by simp [A0z, AV.ids] at h
theorem A5b {π : Nat → Nat} : ∀ (l : List AV) (i : Nat), i ∈ B5 (A1y π l) → ∃ j ∈ B5 l, i = π j
 | [], i, h => by simp [A1y, B5] at h
 | x :: l, i, h => by
  simp only [A1y, B5, List.mem_append] at h ⊢
  rcases h with h | h
  ·obtain ⟨j, hj, e⟩ := E01 x i h; exact ⟨j, Or.inl hj, e⟩
  ·obtain ⟨j, hj, e⟩ := A5b l i h; exact ⟨j, Or.inr hj, e⟩
end

mutual
theorem D8s {π : Nat → Nat} {A : Nat → Prop} {φ : Nat → Nat} {w : World} : ∀ (x : AV) (v : Value), CA A φ w (A0z π x) v ↔ CA A (φ ∘ π) w x v
 | .ag cs, v => by simp only [A0z, CA, A9z cs]
 | .tp cs, v => by simp only [A0z, CA, A9z cs]
 | .ptr j o, v => by simp only [A0z, CA, Function.comp]
 | .ept j s k o, v => by simp only [A0z, CA, Function.comp]
 | .own j s o l r, v => by simp only [A0z, CA, Function.comp]
 | .fn f a b, v => by simp only [A0z, CA, A9z a, A9z b]
 | .t x, v => by simp only [A0z, CA]
 | .ipt cs, v => by simp only [A0z, CA]
 | .ifc b, v => by simp only [A0z, CA]
 | .undef, v => by simp only [A0z, CA]
theorem A9z {π : Nat → Nat} {A : Nat → Prop} {φ : Nat → Nat} {w : World} : ∀ (l : List AV) (vs : List Value), H7 A φ w (A1y π l) vs ↔ H7 A (φ ∘ π) w l vs
 | [], vs => by simp only [A1y, H7]
 | x :: l, vs => by simp only [A1y, H7, D8s x, A9z l]
end

theorem C0k (π : Nat → Nat) : ∀ l : List AV, A1y π l = l.map (A0z π)
 | [] => rfl
 | x :: l => by simp only [A1y, List.map_cons, C0k π l]

theorem D81 {π : Nat → Nat} {A : Nat → Prop} {φ : Nat → Nat} {w : World} {b : Nat} (o : Ob) : CO A φ w b (A6v π o) ↔ CO A (φ ∘ π) w b o := by
 cases o with
 | rowA sz es =>
  simp only [A6v, CO]
  have e1 : (es.map (A1y π)).flatten = A1y π es.flatten := by
   have hf : (A1y π) = List.map (A0z π) := by funext l; exact C0k π l
   rw [hf, List.map_flatten]
  rw [e1]
  simp only [A9z]
  have e2 : (∀ x ∈ es.map (A1y π), x.length = sz) ↔ ∀ x ∈ es, x.length = sz := by
   simp only [List.mem_map, forall_exists_index, and_imp, forall_apply_eq_imp_iff₂, C0k, List.length_map]
  rw [e2]
 | _ => simp only [A6v, CO, A9z]

theorem D0g {π : Nat → Nat} (o : Ob) (i : Nat) (h : i ∈ (A6v π o).ids) : ∃ j ∈ o.ids, i = π j := by
 cases o with
 | box cs => simp only [A6v, Ob.ids] at h ⊢; exact A5b cs i h
 | rowA sz es =>
  simp only [A6v, Ob.ids] at h ⊢
  have e1 : (es.map (A1y π)).flatten = A1y π es.flatten := by
   have hf : (A1y π) = List.map (A0z π) := by funext l; exact C0k π l
   rw [hf, List.map_flatten]
  rw [e1] at h
  exact A5b _ i h
 | _ => simp [A6v, Ob.ids] at h

theorem D2c {π : Nat → Nat} (o : Ob) : (A6v π o).live = o.live := by cases o <;> rfl

theorem A04 {π : Nat → Nat} : ∀ (l : List (Nat × Ob)) (i : Nat), i ∈ A4 (A6i π l) ↔ ∃ j ∈ A4 l, i = π j
 | [], i => by simp [A6i, A4]
 | (k, o) :: l, i => by
  have := A04 (π := π) l i
  simp only [A6i, A4, List.map_cons, List.mem_cons] at this ⊢
  rw [this]
  constructor
  ·rintro (h | ⟨j, hj, e⟩)
   ·exact ⟨k, Or.inl rfl, h⟩
   ·exact ⟨j, Or.inr hj, e⟩
  ·rintro ⟨j, hj | hj, e⟩
   ·subst hj; exact Or.inl e
   ·exact Or.inr ⟨j, hj, e⟩

theorem A49 {π : Nat → Nat} : ∀ {l : List (Nat × Ob)} {id : Nat} {o : Ob}, A9 (A6i π l) id = some o → ∃ i o', A9 l i = some o' ∧ π i = id ∧ o = A6v π o'
 | [], id, o, h => by simp [A6i, A9] at h
 | (j, q) :: l, id, o, h => by
  simp only [A6i, A9] at h
  split at h
  ·rename_i e; injection h with h; exact ⟨j, q, by simp [A9], e.symm, h.symm⟩
  ·rename_i e
   obtain ⟨i, o', h1, h2, h3⟩ := A49 h
   refine ⟨i, o', ?_, h2, h3⟩
   simp only [A9]
   rw [if_neg (fun hij => e (by rw [← h2, hij]))]
   exact h1

theorem C1r {π : Nat → Nat} : ∀ {l : List (Nat × Ob)} {i : Nat} {o : Ob}, (∀ a ∈ A4 l, ∀ b ∈ A4 l, π a = π b → a = b) → A9 l i = some o → A9 (A6i π l) (π i) = some (A6v π o)
 | [], i, o, _, h => by simp [A9] at h
 | (j, q) :: l, i, o, hi, h => by
  simp only [A9] at h
  simp only [A6i, A9]
  split at h
  ·rename_i e; subst e; injection h with h; subst h; simp
  ·rename_i e
   have hil : i ∈ A4 l := D8.1 (by rw [h]; rfl)
   rw [if_neg (fun hij => e (hi i (by simp only [A4, List.map_cons, List.mem_cons]; exact Or.inr hil) j (by simp [A4]) hij))]
   exact C1r (fun a ha b hb => hi a (by simp only [A4, List.map_cons, List.mem_cons]; exact Or.inr ha) b (by simp only [A4, List.map_cons, List.mem_cons]; exact Or.inr hb)) h

section
variable {P : Program} {E : Env}

/-- A contract by other names. -/
theorem Meets.ren {f : FuncId} {args : List AV} {ins outs : List (Nat × Ob)} {r : AV} (π : Nat → Nat) (hπ : ∀ a ∈ A4 outs, ∀ b ∈ A4 outs, π a = π b → a = b) (h : Meets P E f args ins r outs) :
  Meets P E f (A1y π args) (A6i π ins) (A0z π r) (A6i π outs) where
 shutIn := {
  vals := fun i hi => by obtain ⟨j, hj, e⟩ := A5b args i hi; exact (A04 ins i).2 ⟨j, h.shutIn.vals j hj, e⟩
  objs := fun id o ho i hi => by
   obtain ⟨k, o', h1, h2, rfl⟩ := A49 ho
   obtain ⟨j, hj, e⟩ := D0g o' i hi
   exact (A04 ins i).2 ⟨j, h.shutIn.objs k o' h1 j hj, e⟩
  live := fun id o ho => by
   obtain ⟨k, o', h1, h2, rfl⟩ := A49 ho
   rw [D2c]; exact h.shutIn.live k o' h1 }
 shutOut := {
  vals := fun i hi => by obtain ⟨j, hj, e⟩ := A5b [r] i hi; exact (A04 outs i).2 ⟨j, h.shutOut.vals j hj, e⟩
  objs := fun id o ho i hi => by
   obtain ⟨k, o', h1, h2, rfl⟩ := A49 ho
   obtain ⟨j, hj, e⟩ := D0g o' i hi
   exact (A04 outs i).2 ⟨j, h.shutOut.objs k o' h1 j hj, e⟩
  live := fun id o ho => by
   obtain ⟨k, o', h1, h2, rfl⟩ := A49 ho
   rw [D2c]; exact h.shutOut.live k o' h1 }
 stay := fun i hi => by obtain ⟨j, hj, e⟩ := (A04 ins i).1 hi; exact (A04 outs i).2 ⟨j, h.stay j hj, e⟩
 runs := fun A φ w vals gi gA alt hH hargs => by
  have hin : ∀ a ∈ A4 ins, ∀ b ∈ A4 ins, π a = π b → a = b := fun a ha b hb => hπ a (h.stay a ha) b (h.stay b hb)
  have hrun := h.runs A (φ ∘ π) w vals gi gA alt {
   obj := fun id o ho => (D81 o).1 (hH.obj (π id) (A6v π o) (C1r hin ho))
   own := fun id o ho => hH.own (π id) (A6v π o) (C1r hin ho)
   inj := fun i j hi hj hij => hH.inj (π i) (π j) ((A04 ins _).2 ⟨i, hi, rfl⟩) ((A04 ins _).2 ⟨j, hj, rfl⟩) (fun e => hij (hin i hi j hj e)) } ((A9z args _).1 hargs)
  have fin : ∀ v w', (∃ A' φ', Fin E A (φ ∘ π) w ins r outs v w' A' φ') → ∃ A' φ', Fin E A φ w (A6i π ins) (A0z π r) (A6i π outs) v w' A' φ' := by
   intro v w' ⟨A', φ', hf⟩
   refine ⟨A', fun j => (outs.find? (fun p => π p.1 == j)).elim (φ j) (fun p => φ' p.1), ?_⟩
   have key : ∀ i ∈ A4 outs, ((outs.find? (fun p => π p.1 == π i)).elim (φ (π i)) (fun p => φ' p.1)) = φ' i := by
    intro i hi
    cases hfd : outs.find? (fun p => π p.1 == π i) with
    | none =>
     obtain ⟨p, hp, e⟩ := List.mem_map.1 hi
     have := List.find?_eq_none.1 hfd p hp
     rw [e] at this; simp at this
    | some p =>
     have h1 := List.find?_some hfd
     have h2 := List.mem_of_find?_eq_some hfd
     simp only [Option.elim_some]
     rw [hπ p.1 (List.mem_map.2 ⟨p, h2, rfl⟩) i hi (by simpa using h1)]
   have key2 : ∀ i, i ∈ A4 outs → ((fun j => (outs.find? (fun p => π p.1 == j)).elim (φ j) (fun p => φ' p.1)) ∘ π) i = φ' i := key
   exact {
    go := hf.go
    agree := fun id hid => by
     obtain ⟨i, hi, rfl⟩ := (A04 ins id).1 hid
     rw [key i (h.stay i hi)]; exact hf.agree i hi
    holds := {
     obj := fun id o ho => by
      obtain ⟨i, o', h1, rfl, rfl⟩ := A49 ho
      rw [key i (D8.1 (by rw [h1]; rfl)), D81]
      exact CO.goes (Goes.refl A' w') o' (fun j hj => key2 j (h.shutOut.objs i o' h1 j hj)) (fun _ => rfl) (hf.holds.obj i o' h1)
     own := fun id o ho => by
      obtain ⟨i, o', h1, rfl, rfl⟩ := A49 ho
      rw [key i (D8.1 (by rw [h1]; rfl))]
      exact hf.holds.own i o' h1
     inj := fun a b ha hb hab => by
      obtain ⟨i, hi, rfl⟩ := (A04 outs a).1 ha
      obtain ⟨j, hj, rfl⟩ := (A04 outs b).1 hb
      rw [key i hi, key j hj]
      exact hf.holds.inj i j hi hj (fun e => hab (by rw [e])) }
    fresh := fun id hid => by
     obtain ⟨i, hi, rfl⟩ := (A04 outs id).1 hid
     rw [key i hi]
     exact (hf.fresh i hi).imp (fun h => (A04 ins _).2 ⟨i, h, rfl⟩) (fun h => h)
    ca := by
     rw [D8s]
     exact CA.goes (Goes.refl A' w') r v (fun j hj => key2 j (h.shutOut.vals j (by simpa [B5] using hj))) hf.ca
    anew := hf.anew
    alt := hf.alt
    old := fun b hb hne => hf.old b hb (fun i hi => hne (π i) ((A04 ins _).2 ⟨i, hi, rfl⟩))
    os := hf.os
    tape := hf.tape
    output := hf.output
    drawn := hf.drawn
    size := hf.size }
  rcases hrun with ⟨h1, h2⟩ | ⟨v, w', h1, h2⟩
  ·exact Or.inl ⟨h1, h2.mono fun e w' ⟨v, he, hv⟩ => ⟨v, he, fin v w' hv⟩⟩
  ·exact Or.inr ⟨v, w', h1, fin v w' h2⟩

theorem H7.mid {A : Nat → Prop} {φ : Nat → Nat} {w : World} : ∀ {xs ys : List AV} {x : AV} {vs : List Value}, H7 A φ w (xs ++ x :: ys) vs → ∃ v, CA A φ w x v ∧ ∀ x', CA A φ w x' v → H7 A φ w (xs ++ x' :: ys) vs
 | [], ys, x, vs, h => by
  simp only [List.nil_append, H7] at h ⊢
  obtain ⟨z, zs, rfl, h1, h2⟩ := h
  exact ⟨z, h1, fun x' hx => ⟨z, zs, rfl, hx, h2⟩⟩
 | u :: xs, ys, x, vs, h => by
  simp only [List.cons_append, H7] at h ⊢
  obtain ⟨z, zs, rfl, h1, h2⟩ := h
  obtain ⟨v, hv, hk⟩ := H7.mid h2
  exact ⟨v, hv, fun x' hx => ⟨z, zs, rfl, h1, hk x' hx⟩⟩

theorem D8x (xs ys : List AV) {x y : AV} (h : x.ids = y.ids) : B5 (xs ++ x :: ys) = B5 (xs ++ y :: ys) := by
 induction xs with
 | nil => simp only [List.nil_append, B5, h]
 | cons u xs ih => simp only [List.cons_append, B5, ih]

/-- A slice without elements: at whatever place it stands, nil too. -/
theorem Meets.of_empty {f : FuncId} {xs ys : List AV} {ins outs : List (Nat × Ob)} {r : AV} {sz : Nat} (h : ∀ a c, Meets P E f (xs ++ .t (.v (.slice a 0 c)) :: ys) ins r outs) : Meets P E f (xs ++ .t (.sl sz []) :: ys) ins r outs where
 shutIn := {
  vals := fun i hi => (h none 0).shutIn.vals i (by rw [D8x xs ys (x := .t (.v (.slice none 0 0))) (y := .t (.sl sz [])) rfl]; exact hi)
  objs := (h none 0).shutIn.objs
  live := (h none 0).shutIn.live }
 shutOut := (h none 0).shutOut
 stay := (h none 0).stay
 runs := fun A φ w vals gi gA alt hH hargs => by
  obtain ⟨v, hv, hk⟩ := H7.mid hargs
  simp only [CA, CT] at hv
  obtain ⟨a, cap, rfl, _, _⟩ := hv
  exact (h a cap).runs A φ w vals gi gA alt hH (hk _ (by simp [CA, CT, Value.oneCell']))
end

theorem C2 {xs : List AV} {l : List (Nat × Ob)} (h1 : ∀ i ∈ B5 xs, i ∈ A4 l) (h2 : ∀ p ∈ l, p.2.live = true ∧ ∀ i ∈ p.2.ids, i ∈ A4 l) : Shut xs l where
 vals := h1
 objs := fun _ _ ho => (h2 _ (C7j ho)).2
 live := fun _ _ ho => (h2 _ (C7j ho)).1

theorem Wk.row {sto : Nat → Option Ob} {sn : List Nat} {id sz off len : Nat} {r : Bool} {es : List (List T)} (h : B1 sz sto (.own id sz off len r) = some es) (hi : id ∈ sn) : Wk sto sn (.own id sz off len r) (.t (.sl sz es)) :=
 ⟨rfl, Or.inl ⟨h, Or.inl hi⟩⟩

theorem Wk.fro {sto : Nat → Option Ob} {sn : List Nat} {id sz off len : Nat} {r : Bool} {es fs : List (List T)} (h : B1 sz sto (.own id sz off len r) = some es) (hi : sto id = some (.fro sz fs)) : Wk sto sn (.own id sz off len r) (.t (.sl sz es)) :=
 ⟨rfl, Or.inl ⟨h, Or.inr ⟨sz, fs, Or.inl hi⟩⟩⟩

theorem Wk.gone {sto : Nat → Option Ob} {sn : List Nat} {id sz off len : Nat} {r : Bool} {es fs : List (List T)} (h : B1 sz sto (.own id sz off len r) = some es) (hi : sto id = some (.row sz false fs)) : Wk sto sn (.own id sz off len r) (.t (.sl sz es)) :=
 ⟨rfl, Or.inl ⟨h, Or.inr ⟨sz, fs, Or.inr hi⟩⟩⟩

theorem Wk.rowA {sto : Nat → Option Ob} {sn : List Nat} {id sz len : Nat} {r : Bool} {es : List (List T)} (hi : id ∈ sn) (h : J8 sto sn sz len (sto id) = some es) : Wk sto sn (.own id sz 0 len r) (.t (.sl sz es)) :=
 ⟨rfl, Or.inr ⟨hi, rfl, h⟩⟩

theorem Wk.empty {sto : Nat → Option Ob} {sn : List Nat} {sz : Nat} : Wk sto sn (.t (.v (.slice none 0 0))) (.t (.sl sz [])) := rfl

section
variable {P : Program} {E : Env} {io : List Nat} {Q : Exit → St → Prop} {k : List Kt} {env : List (Nat × AV)} {sto : List (Nat × Ob)} {draw : Bool} {prs : List (Nat × Nat)} {vars : List Nat} {id : Nat} {acc : List Rc}

/-- A call that is shown rows, hands in objects, and leaves objects. -/
theorem C7r {ops : List SO} {d : Option Nat} {g : FuncId} {as ys : List AV} {r : AV} {ins outs : List (Nat × Ob)} (sn : List Nat) (keep : Bool) (h : Meets P E g ys ins r outs) (hw : Wks (A9 sto) sn as ys)
  (hin : ∀ i ∈ A4 ins, A9 sto i = A9 ins i) (hnew : ∀ i ∈ A4 outs, i ∈ A4 ins ∨ (A9 sto i = none ∧ 100 ≤ i)) (hs : ∀ i ∈ sn, 100 ≤ i ∧ i ∉ A4 ins ∧ A2d (A9 sto i) = true)
  (hk : keep = true → r.plain = true ∧ ∀ i o, A9 outs i = some o → o.plain) (nd : (A4 outs).Nodup)
  (hr : R P E io Q draw prs vars k (id + 1) ops (if draw then acc ++ [⟨r, B5 as ++ A4 outs ++ sn, outs ++ (if keep then [] else A2f (A9 sto) sn)⟩] else acc) (match d with | some d => (d, r) :: env | none => env) (outs ++ (if keep then [] else A2f (A9 sto) sn) ++ sto)) :
  Cl P E io Q draw prs vars k id ops acc d env sto (.fn g [] []) as := by
 refine ⟨g, [], [], rfl, r, ins, outs, sn, keep, ys, ?_, ?_⟩
 ·exact { meets := h, wk := by simpa using hw, insOk := hin, newOk := hnew, snOk := hs, keepOk := hk, nd := nd }
 ·have e : ([] : List AV) ++ as ++ [] = as := by simp
  rw [e]; exact hr

/-- A call that leaves objects. -/
theorem C18 {ops : List SO} {d : Option Nat} {g : FuncId} {xs : List AV} {r : AV} {outs : List (Nat × Ob)} (h : Meets P E g xs [] r outs) (hnew : ∀ i ∈ A4 outs, A9 sto i = none ∧ 100 ≤ i) (nd : (A4 outs).Nodup)
  (hr : R P E io Q draw prs vars k (id + 1) ops (if draw then acc ++ [⟨r, B5 xs ++ A4 outs, outs⟩] else acc) (match d with | some d => (d, r) :: env | none => env) (outs ++ sto)) :
  Cl P E io Q draw prs vars k id ops acc d env sto (.fn g [] []) xs :=
 C7r [] false h (Wks.refl xs) (by simp [A4]) (fun i hi => Or.inr (hnew i hi)) (by simp) (by simp) nd (by simpa [A4, A2f] using hr)

/-- A call that is handed objects, and leaves them. -/
theorem D8h {ops : List SO} {d : Option Nat} {g : FuncId} {xs : List AV} {r : AV} {ins outs : List (Nat × Ob)} (h : Meets P E g xs ins r outs) (hin : ∀ i ∈ A4 ins, A9 sto i = A9 ins i) (hk : A4 outs = A4 ins) (nd : (A4 ins).Nodup)
  (hr : R P E io Q draw prs vars k (id + 1) ops (if draw then acc ++ [⟨r, B5 xs ++ A4 outs, outs⟩] else acc) (match d with | some d => (d, r) :: env | none => env) (outs ++ sto)) :
  Cl P E io Q draw prs vars k id ops acc d env sto (.fn g [] []) xs :=
 C7r [] false h (Wks.refl xs) hin (fun i hi => Or.inl (by rw [← hk]; exact hi)) (by simp) (by simp) (by rw [hk]; exact nd) (by simpa [A4, A2f] using hr)

/-- A call that is shown rows, which are written no more. -/
theorem A11 {ops : List SO} {d : Option Nat} {g : FuncId} {as ys : List AV} {r : AV} (sn : List Nat) (h : Meets P E g ys [] r []) (hw : Wks (A9 sto) sn as ys)
  (hs : ∀ i ∈ sn, 100 ≤ i ∧ A2d (A9 sto i) = true)
  (hr : R P E io Q draw prs vars k (id + 1) ops (if draw then acc ++ [⟨r, B5 as ++ sn, A2f (A9 sto) sn⟩] else acc) (match d with | some d => (d, r) :: env | none => env) (A2f (A9 sto) sn ++ sto)) :
  Cl P E io Q draw prs vars k id ops acc d env sto (.fn g [] []) as :=
 C7r sn false h hw (by simp [A4]) (by simp [A4]) (fun i hi => ⟨(hs i hi).1, by simp [A4], (hs i hi).2⟩) (by simp) (by simp [A4]) (by simpa [A4] using hr)

/-- The end of a function that leaves objects, or shows rows as trees. -/
theorem D8w {res : List RV} {r : AV} {e : Exit} {outs : List (Nat × Ob)} (rn : List (Nat × Nat)) (sn : List Nat) (he : e = .ret ∨ e = .normal) (hr : ∃ raw, (B6n env sto res).map A8t = some raw ∧ G1 (A9 sto) sn (ren rn) raw r) (hi : ∀ i ∈ r.ids, i ∈ A4 outs)
  (h2 : A1t sto sn rn outs outs) (h3 : ((A4 outs).map (ren rn)).Nodup)
  (h4 : ∀ i ∈ sn, 100 ≤ i ∧ A2d (A9 sto i) = true ∧ ∀ j ∈ A4 outs, ren rn j ≠ i) (h5 : ∀ i ∈ io, ren rn i = i) (h6 : ∀ i ∈ A4 outs, ren rn i ∈ io → i = ren rn i) :
  A7q io res r outs e ⟨H1 env, A9 sto⟩ := by
 obtain ⟨raw, hr, hw⟩ := hr
 cases hl : B6n env sto res with
 | none => rw [hl] at hr; cases hr
 | some raws =>
 rw [hl] at hr
 have hp : A8t raws = raw := Option.some.inj hr
 refine ⟨by rcases he with rfl | rfl <;> trivial, raws, by rw [D4o]; exact hl, ⟨ren rn, sn, ⟨fun id o ho => (B9k h2 id o ho).1, fun id o ho => (B9k h2 id o ho).2,
  fun i j oi oj hi hj _ _ e => C19 h3 i j (B5z hi) (B5z hj) e,
  fun i hi => ⟨(h4 i hi).1, (h4 i hi).2.1, fun id o ho _ => (h4 i hi).2.2 id (B5z ho)⟩⟩, fun k => ?_, fun k i hk => ?_, h5, fun id hid => h6 id (D8.1 hid)⟩⟩
 ·simp only [D38, hp]
  split
  ·exact hw
  ·simp only [G1]
 ·simp only [D38] at hk
  split at hk
  ·exact D8.2 (hi i hk)
  ·simp [AV.ids] at hk
end

@[simp] theorem D5y {s : Nat → Option Ob} {sn : List Nat} {π : Nat → Nat} {x y : List AV} : ∀ {xs ys : List (List AV)}, A2j s sn π (xs ++ [x]) (ys ++ [y]) ↔ A2j s sn π xs ys ∧ G2 s sn π x y
 | [], [] => by simp [A2j]
 | [], b :: ys => by cases ys <;> simp [A2j]
 | a :: xs, [] => by cases xs <;> simp [A2j]
 | a :: xs, b :: ys => by simp only [List.cons_append, A2j, D5y (xs := xs) (ys := ys), and_assoc]

theorem D7e {s : Nat → Option Ob} {sn : List Nat} {π : Nat → Nat} : ∀ l : List T, G2 s sn π (l.map .t) (l.map .t)
 | [] => by simp [G2]
 | .v x :: l => by simp only [List.map_cons, G2, G1]; exact ⟨trivial, D7e l⟩
 | .sl a b :: l => by simp only [List.map_cons, G2, G1]; exact ⟨Or.inl trivial, D7e l⟩

@[simp] theorem E1z {s : Nat → Option Ob} {sn : List Nat} {π : Nat → Nat} : ∀ l : List (List T), A2j s sn π (l.map (List.map AV.t)) (l.map (List.map AV.t)) = True
 | [] => by simp [A2j]
 | x :: l => by
  apply propext
  simp only [List.map_cons, A2j, iff_true]
  exact ⟨D7e x, (E1z l).symm ▸ trivial⟩

theorem C5w {s : Nat → Option Ob} {sn : List Nat} : ∀ l : List T, B4 s sn (l.map .t) = some l
 | [] => rfl
 | x :: l => by simp only [List.map_cons, B4, B8, C5w l]

@[simp] theorem E08 {s : Nat → Option Ob} {sn : List Nat} : ∀ l : List (List T), B6 s sn (l.map (List.map AV.t)) = some l
 | [] => rfl
 | x :: l => by simp only [List.map_cons, B6, C5w, E08 l]

@[simp] theorem D3b {s : Nat → Option Ob} {sn : List Nat} {x : List AV} : ∀ l : List (List T), B6 s sn (l.map (List.map AV.t) ++ [x]) = (B4 s sn x).map fun c => l ++ [c]
 | [] => by simp only [List.map_nil, List.nil_append, B6]; cases B4 s sn x <;> rfl
 | y :: l => by
  simp only [List.map_cons, List.cons_append, B6, C5w, D3b l]
  cases B4 s sn x <;> rfl

theorem D7g (k : Nat) (l : List (Nat × Ob)) : A9 l k = ls k l := rfl
theorem D67 (f : Nat → Option Ob) : A2f f [] = [] := rfl

attribute [go_sem] A2f D7g

end Go.Sx

namespace Go.Sx

theorem A0t (n : Int) : IntKind.u64.wrap n = n % 18446744073709551616 := by simp [IntKind.wrap, IntKind.bits, IntKind.signed]
theorem A6c (n : Int) : IntKind.u8.wrap n = n % 256 := by simp [IntKind.wrap, IntKind.bits, IntKind.signed]
theorem D0z (n : Int) : IntKind.i64.wrap n = if n % 18446744073709551616 ≥ 9223372036854775808 then n % 18446744073709551616 - 18446744073709551616 else n % 18446744073709551616 := by simp [IntKind.wrap, IntKind.bits, IntKind.signed]
theorem A5 {n : Int} (h1 : -9223372036854775808 ≤ n) (h2 : n < 9223372036854775808) : IntKind.i64.wrap n = n := by rw [D0z]; split <;> omega

theorem R4 (n : Nat) : IntKind.u64.wrap (n : Int) = ((n % 18446744073709551616 : Nat) : Int) := by rw [A0t]; omega

theorem D9k (a b : Nat) : G9 .add .u64 a b = some (.int .u64 ((a + b) % 18446744073709551616 : Nat)) := by
 simp only [G9]; rw [← Int.natCast_add, R4]
theorem D9l (a b : Nat) : G9 .mul .u64 a b = some (.int .u64 ((a * b) % 18446744073709551616 : Nat)) := by
 simp only [G9]; rw [← Int.natCast_mul, R4]
theorem D9g (a b : Nat) : G9 .sub .u64 a b = some (.int .u64 ((a + 18446744073709551616 - b % 18446744073709551616) % 18446744073709551616 : Nat)) := by
 simp only [G9]; rw [A0t]
 congr 2
 omega
theorem C06 {a b : Nat} (h : ¬ b = 0) : G9 .quo .u64 a b = some (.int .u64 (a / b % 18446744073709551616 : Nat)) := by
 have hb : ¬ ((b : Int) = 0) := by omega
 simp only [G9, if_neg hb]
 rw [← Int.ofNat_tdiv, R4]
theorem C8f {a b : Nat} (h : ¬ b = 0) : G9 .rem .u64 a b = some (.int .u64 (a % b : Nat)) := by
 have hb : ¬ ((b : Int) = 0) := by omega
 simp only [G9, if_neg hb]
 rw [← Int.ofNat_tmod]
theorem B3q (a : Nat) : BitVec.ofInt 64 (a : Int) = BitVec.ofNat 64 a := by
 apply BitVec.eq_of_toNat_eq; simp
theorem E0u (a b : Nat) : G9 .and .u64 a b = some (.int .u64 ((a % 18446744073709551616) &&& (b % 18446744073709551616) : Nat)) := by
 show some (Value.int .u64 (IntKind.u64.wrap ((BitVec.ofInt 64 (a : Int) &&& BitVec.ofInt 64 (b : Int)).toNat))) = _
 rw [B3q, B3q, R4]
 congr 3
 rw [BitVec.toNat_and, BitVec.toNat_ofNat, BitVec.toNat_ofNat]
 exact Nat.mod_eq_of_lt (Nat.and_lt_two_pow (n := 64) _ (Nat.mod_lt _ (by decide)))
theorem E2k (a b : Nat) : G9 .or .u64 a b = some (.int .u64 ((a % 18446744073709551616) ||| (b % 18446744073709551616) : Nat)) := by
 show some (Value.int .u64 (IntKind.u64.wrap ((BitVec.ofInt 64 (a : Int) ||| BitVec.ofInt 64 (b : Int)).toNat))) = _
 rw [B3q, B3q, R4]
 congr 3
 rw [BitVec.toNat_or, BitVec.toNat_ofNat, BitVec.toNat_ofNat]
 exact Nat.mod_eq_of_lt (Nat.or_lt_two_pow (n := 64) (Nat.mod_lt _ (by decide)) (Nat.mod_lt _ (by decide)))
theorem D9c (a b : Nat) : G9 .xor .u64 a b = some (.int .u64 ((a % 18446744073709551616) ^^^ (b % 18446744073709551616) : Nat)) := by
 show some (Value.int .u64 (IntKind.u64.wrap ((BitVec.ofInt 64 (a : Int) ^^^ BitVec.ofInt 64 (b : Int)).toNat))) = _
 rw [B3q, B3q, R4]
 congr 3
 rw [BitVec.toNat_xor, BitVec.toNat_ofNat, BitVec.toNat_ofNat]
 exact Nat.mod_eq_of_lt (Nat.xor_lt_two_pow (n := 64) (Nat.mod_lt _ (by decide)) (Nat.mod_lt _ (by decide)))
theorem nn (n : Nat) : ¬ ((n : Int) < 0) := by omega
theorem D9j (a s : Nat) : A3x .shl .u64 a s = some (.int .u64 ((a * 2 ^ (min s 64)) % 18446744073709551616 : Nat)) := by
 simp only [A3x, if_neg (nn s), IntKind.bits, Int.toNat_natCast]
 rw [show ((a : Int) * 2 ^ (min s 64)) = ((a * 2 ^ (min s 64) : Nat) : Int) by simp, R4]
theorem D9t (a s : Nat) : A3x .shr .u64 a s = some (.int .u64 (a / 2 ^ (min s 64) : Nat)) := by
 simp only [A3x, if_neg (nn s), IntKind.bits, Int.toNat_natCast]
 rw [show ((2 : Int) ^ (min s 64)) = ((2 ^ (min s 64) : Nat) : Int) by simp]
 rw [Int.fdiv_eq_ediv_of_nonneg _ (Int.natCast_nonneg _), ← Int.natCast_ediv]
theorem E2f (k : IntKind) (a b : Nat) : G9 .lss k a b = some (.bool (decide (a < b))) := by simp [G9]
theorem E2p (k : IntKind) (a b : Nat) : G9 .leq k a b = some (.bool (decide (a ≤ b))) := by simp [G9]
theorem E1a (k : IntKind) (a b : Nat) : G9 .gtr k a b = some (.bool (decide (b < a))) := by simp [G9]
theorem E2g (k : IntKind) (a b : Nat) : G9 .geq k a b = some (.bool (decide (b ≤ a))) := by simp [G9]
theorem C95 (a b : Nat) : ((a : Int) == (b : Int)) = decide (a = b) := by
 rw [Bool.eq_iff_iff]; simp; omega
theorem E2o (k : IntKind) (a b : Nat) : G9 .eql k a b = some (.bool (decide (a = b))) := by
 simp only [G9, C95]
theorem E20 (k : IntKind) (a b : Nat) : G9 .neq k a b = some (.bool (!decide (a = b))) := by
 simp only [G9, bne, C95]

/-- Numbers with a sign: as they are. -/
theorem D97 (a b : Int) : G9 .add .i64 a b = some (.int .i64 (IntKind.i64.wrap (a + b))) := rfl
theorem E09 (a b : Int) : G9 .sub .i64 a b = some (.int .i64 (IntKind.i64.wrap (a - b))) := rfl
theorem D9d (a b : Int) : G9 .mul .i64 a b = some (.int .i64 (IntKind.i64.wrap (a * b))) := rfl
theorem C4 {a b : Int} (h : ¬ b = 0) : G9 .quo .i64 a b = some (.int .i64 (IntKind.i64.wrap (a.tdiv b))) := by simp [G9, h]
theorem C1 {a b : Int} (h : ¬ b = 0) : G9 .rem .i64 a b = some (.int .i64 (a.tmod b)) := by simp [G9, h]
theorem D9a (a b : Int) : G9 .lss .i64 a b = some (.bool (decide (a < b))) := rfl
theorem E0t (a b : Int) : G9 .leq .i64 a b = some (.bool (decide (a ≤ b))) := rfl
theorem E0b (a b : Int) : G9 .gtr .i64 a b = some (.bool (decide (b < a))) := rfl
theorem E0g (a b : Int) : G9 .geq .i64 a b = some (.bool (decide (b ≤ a))) := rfl
theorem D9w (a b : Int) : G9 .eql .i64 a b = some (.bool (decide (a = b))) := rfl
theorem E06 (a b : Int) : G9 .neq .i64 a b = some (.bool (!decide (a = b))) := rfl

theorem A9y (n : Nat) : IntKind.u8.wrap (n : Int) = ((n % 256 : Nat) : Int) := by rw [A6c]; omega
theorem E2s (a s : Nat) : A3x .shr .u8 a s = some (.int .u8 (a / 2 ^ (min s 8) : Nat)) := by
 simp only [A3x, if_neg (nn s), IntKind.bits, Int.toNat_natCast]
 rw [show ((2 : Int) ^ (min s 8)) = ((2 ^ (min s 8) : Nat) : Int) by simp]
 rw [Int.fdiv_eq_ediv_of_nonneg _ (Int.natCast_nonneg _), ← Int.natCast_ediv]
theorem D0y (a s : Nat) : A3x .shr .i64 a s = some (.int .i64 (a / 2 ^ (min s 64) : Nat)) := by
 simp only [A3x, if_neg (nn s), IntKind.bits, Int.toNat_natCast]
 rw [show ((2 : Int) ^ (min s 64)) = ((2 ^ (min s 64) : Nat) : Int) by simp]
 rw [Int.fdiv_eq_ediv_of_nonneg _ (Int.natCast_nonneg _), ← Int.natCast_ediv]
theorem C40 (a : Nat) : BitVec.ofInt 8 (a : Int) = BitVec.ofNat 8 a := by
 apply BitVec.eq_of_toNat_eq; simp
theorem E2h (a b : Nat) : G9 .and .u8 a b = some (.int .u8 ((a % 256) &&& (b % 256) : Nat)) := by
 show some (Value.int .u8 (IntKind.u8.wrap ((BitVec.ofInt 8 (a : Int) &&& BitVec.ofInt 8 (b : Int)).toNat))) = _
 rw [C40, C40, A9y]
 congr 3
 rw [BitVec.toNat_and, BitVec.toNat_ofNat, BitVec.toNat_ofNat]
 exact Nat.mod_eq_of_lt (Nat.and_lt_two_pow (n := 8) _ (Nat.mod_lt _ (by decide)))
theorem E38 (a b : Nat) : G9 .or .u8 a b = some (.int .u8 ((a % 256) ||| (b % 256) : Nat)) := by
 show some (Value.int .u8 (IntKind.u8.wrap ((BitVec.ofInt 8 (a : Int) ||| BitVec.ofInt 8 (b : Int)).toNat))) = _
 rw [C40, C40, A9y]
 congr 3
 rw [BitVec.toNat_or, BitVec.toNat_ofNat, BitVec.toNat_ofNat]
 exact Nat.mod_eq_of_lt (Nat.or_lt_two_pow (n := 8) (Nat.mod_lt _ (by decide)) (Nat.mod_lt _ (by decide)))
theorem E1n (a b : Nat) : G9 .add .u8 a b = some (.int .u8 ((a + b) % 256 : Nat)) := by
 simp only [G9]; rw [← Int.natCast_add, A9y]
theorem E1t (a b : Nat) : G9 .sub .u8 a b = some (.int .u8 ((a + 256 - b % 256) % 256 : Nat)) := by
 simp only [G9]; rw [A6c]
 congr 2
 omega
theorem D82 {a b : Nat} (h : ¬ b = 0) : G9 .quo .u8 a b = some (.int .u8 (a / b % 256 : Nat)) := by
 have hb : ¬ ((b : Int) = 0) := by omega
 simp only [G9, if_neg hb]
 rw [← Int.ofNat_tdiv, A9y]
theorem D85 {a b : Nat} (h : ¬ b = 0) : G9 .rem .u8 a b = some (.int .u8 (a % b : Nat)) := by
 have hb : ¬ ((b : Int) = 0) := by omega
 simp only [G9, if_neg hb]
 rw [← Int.ofNat_tmod]
/-- And, of two that are not below zero. -/
theorem D1i {a b : Nat} (ha : a < 9223372036854775808) (hb : b < 9223372036854775808) : G9 .and .i64 a b = some (.int .i64 ((a &&& b : Nat) : Int)) := by
 show some (Value.int .i64 (IntKind.i64.wrap ((BitVec.ofInt 64 (a : Int) &&& BitVec.ofInt 64 (b : Int)).toNat))) = _
 rw [B3q, B3q]
 have h : (BitVec.ofNat 64 a &&& BitVec.ofNat 64 b).toNat = a &&& b := by
  rw [BitVec.toNat_and, BitVec.toNat_ofNat, BitVec.toNat_ofNat, Nat.mod_eq_of_lt (by omega), Nat.mod_eq_of_lt (by omega)]
 have h2 : a &&& b ≤ a := Nat.and_le_left
 rw [h, A5 (by omega) (by omega)]

theorem J1 {a b : Int} (h : 0 ≤ a) : a.tdiv b = a / b := Int.tdiv_eq_ediv_of_nonneg h
theorem J6 {a b : Int} (h : 0 ≤ a) : a.tmod b = a % b := Int.tmod_eq_emod_of_nonneg h

attribute [go_sem] E2s D0y E2h E38 E1n E1t D82 D85
attribute [go_sem] D9k D9l D9g E0u E2k D9c D9j D9t E2f E2p E1a E2g E2o E20 C06 C8f
 D97 E09 D9d C4 C1 D9a E0t E0b E0g D9w E06 C95

attribute [go_sem] Int.natCast_nonneg List.getElem?_map Int.toNat_natCast List.length_map List.replicate_zero Bool.bne_false Bool.bne_true List.length_replicate List.isEmpty_cons List.isEmpty_nil Nat.le_refl Int.le_refl Int.sub_zero Int.sub_self ne_eq List.length_append Int.toNat_zero Nat.zero_mul Nat.mul_one Nat.one_mul

/-- A function's slim code: its contract by a walk over it. -/
abbrev Q6 (P : Program) (E : Env) (f n : Nat) (sc : SC) (rv : List RV) : Prop := ∀ {args : List AV} {ins outs : List (Nat × Ob)} {r : AV}, args.length ≤ n → Shut args ins → Shut [r] outs → (∀ i ∈ A4 ins, i ∈ A4 outs) → (∀ i ∈ A4 ins, i < 100) →
 W P E (A4 ins) (A7q (A4 ins) rv r outs) sc [] (D3m 0 args) ins → Meets P E f args ins r outs

theorem B9 {P : Program} {E : Env} {G : Nat → Option (List T)} (hm : P.follows .mixedOrders = true) (hG : GOK E G) {f : FuncId} {fn : Func} {c : Code} {n b' : Nat} {sc : SC} {vars : List Nat} {rv : List RV} (hf : P.funcs[f]? = some fn) (hb : fn.body = some c)
  (hname : (fn.name == "runtime.NumGoroutine") = false) (hsl : A2e P G n vars 100 c = some (sc, b')) (hn : fn.ntmps = n) (hres : B02 P fn.results.toList = some rv) : Q6 P E f n sc rv :=
 fun hlen h1 h2 h3 hio hw => D7c hm hG hf hb hname hsl hn hres hlen h1 h2 h3 hio (E1w hw)

end Go.Sx

namespace Go.Sx

section
variable {P : Program} {E : Env} {io : List Nat} {Q : Exit → St → Prop} {k : List Kt} {env : List (Nat × AV)} {sto : List (Nat × Ob)} {draw : Bool} {prs : List (Nat × Nat)} {vars : List Nat} {id : Nat} {acc : List Rc}

theorem wE {res : List RV} {r : AV} {e : Exit} (hr : (B6n env sto res).map A8t = some r) (he : e = .ret ∨ e = .normal := by first | exact Or.inl rfl | exact Or.inr rfl) (hi : r.ids = [] := by first | rfl | simp [AV.ids, B5]) : A7q [] res r [] e ⟨H1 env, A9 sto⟩ :=
 C83 he hr hi

theorem rF (h2 : B P E io Q k .normal (C2j env vars) sto) (h1 : A6e prs acc := by repeat' (first | exact D78 | refine okp rfl rfl rfl ?_)) : R P E io Q draw prs vars k id [] acc env sto := D04 h1 h2

/-- A test that hangs on what came in, with its fact shown by itself. -/
theorem Q4 {x : Bool} {c : SV} {a b : SC} (ht : x = true → W P E io Q a k env sto) (hf : x = false → W P E io Q b k env sto) (h : svE env c = .t (.v (.bool x)) := by with_unfolding_all exact rfl) : W P E io Q (.cond c a b) k env sto := G3 h ht hf

theorem Q3 {x : Bool} {d : Nat} {s : SK} {t : Nat} {want : Bool} {ops : List SO} (ht : x = want → R P E io Q draw prs vars k id (⟨some d, s, none⟩ :: ops) acc env sto)
  (hf : x = (!want) → R P E io Q draw prs vars k (id + 1) ops (if draw then acc ++ [⟨.tp [], [], []⟩] else acc) ((d, .tp []) :: env) sto) (h : lk t env = .t (.v (.bool x)) := by with_unfolding_all exact rfl) : R P E io Q draw prs vars k id (⟨some d, s, some (t, want)⟩ :: ops) acc env sto := E0o h ht hf

theorem spB {b : Bool} : (((!b) = true) = (b = false)) ∧ (((!b) = false) = (b = true)) := by cases b <;> simp
theorem spD {p : Prop} [Decidable p] : ((decide p = true) = p) ∧ ((decide p = false) = ¬p) := by simp
theorem spC : ((!true) = false) ∧ ((!false) = true) ∧ ((¬False) = True) := by simp

theorem wS {res : List RV} {r : AV} {e : Exit} {outs : List (Nat × Ob)} (sn : List Nat) (hr : ∃ raw, (B6n env sto res).map A8t = some raw ∧ G1 (A9 sto) sn (ren []) raw r) (he : e = .ret ∨ e = .normal := by first | exact Or.inl rfl | exact Or.inr rfl)
  (hi : ∀ i ∈ r.ids, i ∈ A4 outs := by simp [AV.ids, B5]) (h2 : A1t sto sn [] outs outs := by simp [A1t]) (h3 : ((A4 outs).map (ren [])).Nodup := by simp [A4])
  (h4 : ∀ i ∈ sn, 100 ≤ i ∧ A2d (A9 sto i) = true ∧ ∀ j ∈ A4 outs, ren [] j ≠ i := by simp [A9, A4] <;> assumption) (h5 : ∀ i ∈ io, ren [] i = i := by simp [A4]) (h6 : ∀ i ∈ A4 outs, ren [] i ∈ io → i = ren [] i := by simp [A4]) :
  A7q io res r outs e ⟨H1 env, A9 sto⟩ := D8w [] sn he hr hi h2 h3 h4 h5 h6

theorem wO {res : List RV} {r : AV} {e : Exit} {outs : List (Nat × Ob)} (rn : List (Nat × Nat)) (sn : List Nat) (hr : ∃ raw, (B6n env sto res).map A8t = some raw ∧ G1 (A9 sto) sn (ren rn) raw r) (he : e = .ret ∨ e = .normal := by first | exact Or.inl rfl | exact Or.inr rfl)
  (hi : ∀ i ∈ r.ids, i ∈ A4 outs := by simp [AV.ids, B5, A4]) (h2 : A1t sto sn rn outs outs := by simp [A1t, wkO, B69, C17, A9, ren, A4, Ob.ids, G1, G2, AV.one, B5, AV.ids] <;> assumption) (h3 : ((A4 outs).map (ren rn)).Nodup := by simp [A4, ren])
  (h4 : ∀ i ∈ sn, 100 ≤ i ∧ A2d (A9 sto i) = true ∧ ∀ j ∈ A4 outs, ren rn j ≠ i := by simp [A9, A4, ren]) (h5 : ∀ i ∈ io, ren rn i = i := by simp [A4, ren]) (h6 : ∀ i ∈ A4 outs, ren rn i ∈ io → i = ren rn i := by simp [A4, ren]) :
  A7q io res r outs e ⟨H1 env, A9 sto⟩ := D8w rn sn he hr hi h2 h3 h4 h5 h6

theorem sR {env' : List (Nat × AV)} {sto' : List (Nat × Ob)} (rn : List (Nat × Nat)) (sn : List Nat)
  (h1 : A6s sto sn rn env sto' env' := by simp [A6s, go_sem, G1, G2, AV.ids, B5, A4, ren, A9, B1, AV.asOwn, B3, AV.isNil, J8, B6, B4, B8, A2j] <;> assumption)
  (h2 : A1t sto sn rn sto' sto' := by simp [A1t, go_sem, G1, G2, wkO, AV.ids, Ob.ids, B5, A4, ren, AV.one, A9, B1, AV.asOwn, B3, AV.isNil, J8, B6, B4, B8, A2j] <;> assumption)
  (h3 : ((A4 sto').map (ren rn)).Nodup := by simp [A4, ren]) (h4 : ∀ i ∈ sn, 100 ≤ i ∧ A2d (A9 sto i) = true ∧ ∀ j ∈ A4 sto', ren rn j ≠ i := by simp [A9, A4, ren])
  (h5 : ∀ i ∈ io, ren rn i = i := by simp [A4, ren]) (h6 : ∀ i ∈ A4 sto', ren rn i ∈ io → i = ren rn i := by simp [A4, ren]) :
  Sub io ⟨H1 env, A9 sto⟩ ⟨H1 env', A9 sto'⟩ := C0t rn sn h1 h2 h3 h4 h5 h6

theorem sR0 {env' : List (Nat × AV)} {sto' : List (Nat × Ob)}
  (h1 : A6s sto [] [] env sto' env' := by simp [A6s, go_sem, G1, G2, AV.ids, B5, A4, ren]) (h2 : A1t sto [] [] sto' sto' := by simp [A1t, go_sem, G1, G2, wkO, AV.ids, Ob.ids, B5, A4, ren, AV.one])
  (h3 : ((A4 sto').map (ren [])).Nodup := by simp [A4, ren]) (h5 : ∀ i ∈ io, ren [] i = i := by simp [A4]) (h6 : ∀ i ∈ A4 sto', ren [] i ∈ io → i = ren [] i := by simp [A4]) :
  Sub io ⟨H1 env, A9 sto⟩ ⟨H1 env', A9 sto'⟩ := C0t [] [] h1 h2 h3 (by simp) h5 h6

theorem oB {ops : List SO} {d : Option Nat} {g : FuncId} {xs : List AV} {r : AV} {ins outs : List (Nat × Ob)} (h : Meets P E g xs ins r outs)
  (hr : R P E io Q draw prs vars k (id + 1) ops (if draw then acc ++ [⟨r, B5 xs ++ A4 outs, outs⟩] else acc) (match d with | some d => (d, r) :: env | none => env) (outs ++ sto))
  (hin : ∀ i ∈ A4 ins, A9 sto i = A9 ins i := by simp [A4, A9]) (hk : A4 outs = A4 ins := by simp [A4]) (nd : (A4 ins).Nodup := by simp [A4]) :
  Cl P E io Q draw prs vars k id ops acc d env sto (.fn g [] []) xs := D8h h hin hk nd hr

theorem X6 {f n : Nat} {sc : SC} {rv : List RV} {args : List AV} {r : AV} (h : Q6 P E f n sc rv) (hw : W P E (A4 []) (A7q (A4 []) rv r []) sc [] (D3m 0 args) []) (h1 : args.length ≤ n := by simp) (h2 : B5 args = [] := by rfl) (h3 : B5 [r] = [] := by rfl) : Meets P E f args [] r [] :=
 h h1 (B05 h2) (B05 h3) (by simp) (by simp [A4]) hw
end

end Go.Sx

/-! ### Slim code in fewer words -/
namespace Go.Sl
open Go.Sx
abbrev o (d : Nat) (x : SOp) : SO := ⟨some d, .op x, none⟩
abbrev p (x : SOp) : SO := ⟨none, .op x, none⟩
abbrev g (d c : Nat) (b : Bool) (x : SOp) : SO := ⟨some d, .op x, some (c, b)⟩
abbrev c (d : Nat) (f : SV) (l : List SV) : SO := ⟨some d, .call f l, none⟩
abbrev m (d s : Nat) : SO := ⟨some d, .op (.mv (.tm s)), none⟩
abbrev t (n : Nat) : SV := .tm n
abbrev z (n : Int) : SV := .c (.t (.v (.int .i64 n)))
abbrev bo (b : Bool) : SV := .c (.t (.v (.bool b)))
abbrev nl : SV := .c (.t (.v (.slice none 0 0)))
abbrev fn (n : Nat) : SV := .c (.fn n [] [])
abbrev q (b : Nat) (l : List SO) (v : List Nat) : SC := .reg b l false [] v
end Go.Sl

namespace Go.Sx

/-- A function that answers at once and leaves the world as it is. -/
theorem C82 {P : Program} {E : Env} {f : FuncId} {args : List AV} {r : AV} (ha : B5 args = []) (hr : r.ids = [])
  (h : ∀ (A : Nat → Prop) (φ : Nat → Nat) (w : World) (vals : Array Value), H7 A φ w args vals.toList → ∃ v, (callFunc f vals).run P w = .ok (.value v) w ∧ CA A φ w r v) : Meets P E f args [] r [] where
 shutIn := B05 ha
 shutOut := B05 (by simp [B5, hr])
 stay := by simp
 runs := by
  intro A φ w vals hg hgb hA hh ha
  obtain ⟨v, h1, h2⟩ := h A φ w vals ha
  refine Or.inr ⟨v, w, h1, A, φ, ?_⟩
  exact ⟨Goes.refl A w, by simp, hh, by simp [A4], h2, fun b hb => Or.inl hb, hA, fun _ _ _ => rfl, rfl, rfl, rfl, fun _ => Nat.le_refl _, Nat.le_refl _⟩

/-- 'bits.Add64'. -/
theorem D0m {P : Program} {E : Env} {f : FuncId} {fn : Func} (hf : P.funcs[f]? = some fn) (hname : (fn.name == "runtime.NumGoroutine") = false)
  (hb : fn.body.isNone = true) (hn : Extern.findNext fn = none) (he : Extern.find fn = some add64Entry) (x y c : Nat) (hc : c ≤ 1) :
  Meets P E f [U x, U y, U c] [] (.tp [U ((x + y + c) % 18446744073709551616 : Nat), U ((x + y + c) / 18446744073709551616 : Nat)]) [] := by
 refine C82 rfl rfl fun A φ w vals hv => ?_
 simp only [H7] at hv
 obtain ⟨a, _, e1, ha, b, _, rfl, hb', d, _, rfl, hd, rfl⟩ := hv
 obtain ⟨rfl, _⟩ := U3 ha
 obtain ⟨rfl, _⟩ := U3 hb'
 obtain ⟨rfl, _⟩ := U3 hd
 have e2 : vals = #[.int .u64 x, .int .u64 y, .int .u64 c] := by cases vals; simp_all
 subst e2
 refine ⟨_, by rw [run_callFunc_extern hf hname hb hn he, run_add64 _ _ _ (by omega) (by omega) (by omega) (by omega)]; rfl, ?_⟩
 simp only [CA, H7, CT]
 refine ⟨_, rfl, _, _, rfl, ⟨?_, rfl⟩, _, _, rfl, ⟨?_, rfl⟩, rfl⟩
 ·congr 1
 ·congr 1
end Go.Sx
