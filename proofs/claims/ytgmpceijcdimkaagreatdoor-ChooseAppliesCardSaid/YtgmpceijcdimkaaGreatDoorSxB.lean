/- The operations that make no rows: what they do in the machine is what their slim twins do. No statement of a seat is proved here. -/
import Derived.Test.YtgmpceijcdimkaaGreatDoorSxA
set_option linter.unusedSimpArgs false
set_option linter.unusedVariables false
namespace Go.Sx
section
variable {P : Program} {E : Env} {F : Frm} {sto : Nat → Option Ob} {w : World} {A : Nat → Prop} {φ : Nat → Nat}

theorem H7.drop {xs : List AV} {ys : List Value} (h : H7 A φ w xs ys) (k : Nat) : H7 A φ w (xs.drop k) (ys.drop k) := by
 rw [H7.iff] at h ⊢
 refine ⟨by simp [h.1], fun i x hx => ?_⟩
 rw [List.getElem?_drop] at hx ⊢
 exact h.2 _ x hx

theorem H7.take {xs : List AV} {ys : List Value} (h : H7 A φ w xs ys) (k : Nat) : H7 A φ w (xs.take k) (ys.take k) := by
 rw [H7.iff] at h ⊢
 refine ⟨by simp [h.1], fun i x hx => ?_⟩
 rw [List.getElem?_take] at hx ⊢
 split at hx
 ·rename_i hi; rw [if_pos hi]; exact h.2 _ x hx
 ·simp at hx

theorem H7.append {xs xs' : List AV} {ys ys' : List Value} (h : H7 A φ w xs ys) (h' : H7 A φ w xs' ys') : H7 A φ w (xs ++ xs') (ys ++ ys') := by
 induction xs generalizing ys with
 | nil => simp only [H7] at h; subst h; simpa using h'
 | cons x xs ih =>
  simp only [H7] at h; obtain ⟨z, zs, rfl, h1, h2⟩ := h
  simp only [List.cons_append, H7]
  exact ⟨z, zs ++ ys', rfl, h1, ih h2⟩

theorem H7.splice {xs vs : List AV} {ys us : List Value} (h : H7 A φ w xs ys) (h' : H7 A φ w vs us) (k : Nat) : H7 A φ w (splice xs k vs) (splice ys k us) := by
 unfold Sx.splice
 rw [h'.length]
 exact ((h.take k).append h').append (h.drop _)

/-- The cells of trees. -/
theorem D0.toCAs {b : Nat} : ∀ {cs : List T} {o : Nat}, D0 A w b o cs → ∃ ys : List Value, H7 A φ w (cs.map .t) ys ∧ ys.length = cs.length ∧ ∀ j v, ys[j]? = some v → w.cell? ⟨b, o + j, none⟩ = some v
 | [], _, _ => ⟨[], by simp [H7], rfl, by simp⟩
 | c :: cs, o, h => by
  simp only [D0] at h
  obtain ⟨⟨y, hy, hc⟩, hr⟩ := h
  obtain ⟨ys, h1, h2, h3⟩ := D0.toCAs hr
  refine ⟨y :: ys, ?_, by simp [h2], fun j v hv => ?_⟩
  ·simp only [List.map_cons, H7]; exact ⟨y, ys, rfl, by simpa only [CA] using hc, h1⟩
  ·cases j with
   | zero => simp at hv; subst hv; simpa using hy
   | succ j => simp at hv; have := h3 j v hv; rwa [show o + 1 + j = o + (j + 1) from by omega] at this

theorem AV.one_cell {x : AV} {y : Value} (h1 : x.one = true) (h : CA A φ w x y) : y.oneCell' = true ∧ y.cells = #[y] := by
 have key : y.oneCell' = true := by
  cases x with
  | t x => exact CT.oneCell (A := A) (w := w) (by simpa only [CA] using h)
  | ag cs => simp [AV.one] at h1
  | tp cs => simp [AV.one] at h1
  | undef => simp [AV.one] at h1
  | ptr i o => simp only [CA] at h; rw [h]; rfl
  | ept i s j o => simp only [CA] at h; rw [h]; rfl
  | ipt cs => simp only [CA] at h; obtain ⟨b, o, rfl, _⟩ := h; rfl
  | ifc b => simp only [CA] at h; cases b with
   | true => obtain ⟨t, v, rfl⟩ := h.1 rfl; rfl
   | false => rw [h.2 rfl]; rfl
  | own i s o l r => simp only [CA] at h; obtain ⟨a, c, rfl, _⟩ := h; rfl
  | fn f a b => simp only [CA] at h; obtain ⟨u, v, rfl, _⟩ := h; rfl
 exact ⟨key, by cases y <;> simp_all [Value.oneCell', Value.cells]⟩

theorem B4p {x : AV} {y : Value} (hx : x.cells.all AV.one = true) (h : CA A φ w x y) : H7 A φ w x.cells y.cells.toList ∧ ∀ u ∈ y.cells.toList, u.oneCell' = true := by
 by_cases hg : ∃ cs, x = .ag cs
 ·obtain ⟨cs, rfl⟩ := hg
  simp only [CA] at h; obtain ⟨ys, rfl, h⟩ := h
  simp only [AV.cells] at hx ⊢
  refine ⟨h, fun u hu => ?_⟩
  obtain ⟨z, hz, hc⟩ := H7.mem h u hu
  exact (AV.one_cell (List.all_eq_true.1 hx z hz) hc).1
 ·have hc : x.cells = [x] := by cases x <;> simp_all [AV.cells]
  rw [hc] at hx ⊢
  have h1 := AV.one_cell (by simpa using hx) h
  rw [h1.2]
  exact ⟨by simp only [H7]; exact ⟨y, [], rfl, h, rfl⟩, by simp [h1.1]⟩

theorem C2a {t : TypeId} {d : TypeDesc} {n : Nat} (hu : P.underlying t = some d) (hs : Q8 P t = some n) (a : Addr) (vs : List Value) (h : ∀ j v, vs[j]? = some v → w.cell? (a.add j) = some v)
  (hl : if S5 d then vs.length = n else vs ≠ []) : (loadVar t a).run P w = .ok (A50 (S5 d) vs) w := by
 have ha : A3s P t = S5 d := by simp [A3s, hu]
 simp only [loadVar, Sem.run_bind, C1o (t := t) (by rw [hu]; rfl), Result.andThen_ok, ha]
 cases hd : S5 d with
 | true =>
  simp only [hd, if_true] at hl
  simp only [if_true, Sem.run_bind, O1 hs, Result.andThen_ok, ← hl, run_loadCells_list (P := P) w a vs h, Sem.run_pure, A50]
 | false =>
  simp only [hd, Bool.false_eq_true, if_false] at hl
  cases vs with
  | nil => exact absurd rfl hl
  | cons v vs =>
   have h0 := h 0 v rfl
   rw [show a.add 0 = a from rfl] at h0
   simp [A50, h0]

theorem A2w (b o j : Nat) : (⟨b, o, none⟩ : Addr).add j = ⟨b, o + j, none⟩ := by
 unfold Addr.add; split <;> simp_all

theorem D03 {agg : Bool} {n : Nat} {cs : List AV} {ys : List Value} {x : AV} (h : H7 A φ w cs ys) (hp : B0b agg n cs = some x) :
  ∃ vs, (∀ (j : Nat) v, vs[j]? = some v → ys[j]? = some v) ∧ (if agg then vs.length = n else vs ≠ []) ∧ CA A φ w x (A50 agg vs) ∧ ∀ id ∈ x.ids, id ∈ B5 cs := by
 have idsL_take : ∀ (k : Nat) (l : List AV) (i : Nat), i ∈ B5 (l.take k) → i ∈ B5 l := by
  intro k l
  induction l generalizing k with
  | nil => intro i hi; simp at hi; exact hi
  | cons a l ih =>
   intro i hi
   cases k with
   | zero => simp [B5] at hi
   | succ k =>
    simp only [List.take_succ_cons, B5, List.mem_append] at hi ⊢
    exact hi.imp (fun h => h) (ih k i)
 cases agg with
 | true =>
  simp only [B0b, if_true] at hp
  split at hp
  ·rename_i hn
   injection hp with hp; subst hp
   refine ⟨ys.take n, fun j v hv => ?_, ?_, ?_, fun id hid => idsL_take n cs id (by simpa only [AV.ids] using hid)⟩
   ·rw [List.getElem?_take] at hv; split at hv
    ·exact hv
    ·simp at hv
   ·simp [h.length]; omega
   ·simp only [A50, if_true, CA]
    exact ⟨_, rfl, by simpa using h.take n⟩
  ·simp at hp
 | false =>
  simp only [B0b, Bool.false_eq_true, if_false] at hp
  obtain ⟨y, hy, hc⟩ := h.get hp
  refine ⟨[y], fun j v hv => ?_, by simp, by simpa [A50] using hc, fun id hid => ?_⟩
  ·cases j with
   | zero => simp at hv; subst hv; exact hy
   | succ j => simp at hv
  ·cases cs with
   | nil => simp at hp
   | cons c cs => simp at hp; subst hp; simp [B5, hid]

theorem D1d (agg : Bool) (n : Nat) (cs : List T) : C5r agg n cs = B0b agg n (cs.map .t) := by
 cases agg <;> simp [C5r, B0b, List.map_take]

theorem A91 (cs : List T) : B5 (cs.map .t) = [] := by
 induction cs with
 | nil => rfl
 | cons c cs ih => simp [B5, AV.ids, ih]

theorem B64 {l : List AV} {k i : Nat} (h : i ∈ B5 (l.drop k)) : i ∈ B5 l := by
 induction l generalizing k with
 | nil => simpa using h
 | cons a l ih =>
  cases k with
  | zero => simpa using h
  | succ k => simp only [List.drop_succ_cons] at h; simp only [B5, List.mem_append]; exact Or.inr (ih h)

theorem A3t {l : List AV} {i : Nat} : i ∈ B5 l ↔ ∃ x ∈ l, i ∈ x.ids := by
 induction l with
 | nil => simp [B5]
 | cons a l ih => simp [B5, ih]

theorem B5e {l vs : List AV} {k i : Nat} (h : i ∈ B5 (splice l k vs)) : i ∈ B5 l ∨ i ∈ B5 vs := by
 rw [A3t] at h
 obtain ⟨x, hx, hi⟩ := h
 simp only [splice, List.mem_append] at hx
 rcases hx with (hx | hx) | hx
 ·exact Or.inl (A3t.2 ⟨x, List.mem_of_mem_take hx, hi⟩)
 ·exact Or.inr (A3t.2 ⟨x, hx, hi⟩)
 ·exact Or.inl (A3t.2 ⟨x, List.mem_of_mem_drop hx, hi⟩)

theorem B68 {x : AV} : B5 x.cells = x.ids := by
 cases x <;> simp [AV.cells, AV.ids, B5]

theorem D9 {b o : Nat} {ys : Array Value} {e : TypeId} {fz : Nat × Nat} (h : w.heap[b]? = some (.cells ys e fz)) : w.cell? ⟨b, o, none⟩ = ys[o]? := by
 simp [World.cell?, h]

/-- A row's cells, one behind the other: around one element. -/
theorem B8b {α : Type} {sz : Nat} : ∀ {es : List (List α)} {j : Nat} {e : List α}, (∀ x ∈ es, x.length = sz) → es[j]? = some e → ∃ a b, es.flatten = a ++ e ++ b ∧ a.length = j * sz ∧ ∀ e', (es.set j e').flatten = a ++ e' ++ b
 | [], _, _, _, h => by simp at h
 | x :: es, 0, e, _, h => by
  simp at h; subst h
  exact ⟨[], es.flatten, by simp, by simp, fun e' => by simp⟩
 | x :: es, j + 1, e, hl, h => by
  obtain ⟨a, b, h1, h2, h3⟩ := B8b (fun y hy => hl y (by simp [hy])) (show es[j]? = some e by simpa using h)
  refine ⟨x ++ a, b, by simp [h1], ?_, fun e' => by simp [h3]⟩
  rw [List.length_append, h2, hl x (by simp), Nat.add_mul]; omega

theorem D1z {α : Type} {sz : Nat} : ∀ {es : List (List α)}, (∀ x ∈ es, x.length = sz) → es.flatten.length = es.length * sz
 | [], _ => by simp
 | x :: es, hl => by
  rw [List.flatten_cons, List.length_append, D1z fun y hy => hl y (by simp [hy]), hl x (by simp), List.length_cons, Nat.add_mul]; omega

/-- Loading: by the kind of the pointer. -/
theorem D2a (h : RS E F sto w A φ) {t : TypeId} {d : TypeDesc} {n id : Nat} (hu : P.underlying t = some d) (hs : Q8 P t = some n) {px : SV} {p : AV} {pv : Value} (hp : CA A φ w p pv)
  {x : AV} {wr : List (Nat × Ob)} (hc : J9 id (.load (S5 d) n px) (fun _ => p) sto = some (x, wr)) :
  wr = [] ∧ ∃ v, (Instr.loadAt t pv).run P w = .ok v w ∧ CA A φ w x v ∧ ∀ i ∈ x.ids, (sto i).isSome = true := by
 have done : ∀ {b o : Nat} {cs : List AV} {ys : List Value}, pv = .pointer (some ⟨b, o, none⟩) → H7 A φ w cs ys → (∀ (j : Nat) v, ys[j]? = some v → w.cell? ⟨b, o + j, none⟩ = some v) → (∀ i ∈ B5 cs, (sto i).isSome = true) → B0b (S5 d) n cs = some x →
   ∃ v, (Instr.loadAt t pv).run P w = .ok v w ∧ CA A φ w x v ∧ ∀ i ∈ x.ids, (sto i).isSome = true := by
  intro b o cs ys hpv hcs hys hi hpk
  obtain ⟨vs, h1, h2, h3, h4⟩ := D03 hcs hpk
  refine ⟨_, ?_, h3, fun i hx => hi i (h4 i hx)⟩
  simp only [Instr.loadAt, hpv, Instr.sureAddr, Sem.run_bind, Sem.run_pure, Result.andThen_ok]
  exact C2a hu hs _ vs (fun j v hv => by rw [A2w]; exact hys j v (h1 j v hv)) h2
 have rows : ∀ {i sz j off : Nat} {es : List (List T)}, p = .ept i sz j off → E5 A w sz (φ i) 0 es → (match es[j]? with
    | some e => (C5r (S5 d) n (e.drop off)).map fun v => (v, ([] : List (Nat × Ob)))
    | none => none) = some (x, wr) → wr = [] ∧ ∃ v, (Instr.loadAt t pv).run P w = .ok v w ∧ CA A φ w x v ∧ ∀ i ∈ x.ids, (sto i).isSome = true := by
  intro i sz j off es hpe hr hm
  cases he : es[j]? with
  | none => simp [he] at hm
  | some e =>
   simp only [he, Option.map_eq_some_iff, D1d] at hm
   obtain ⟨v, hv, hv2⟩ := hm
   simp at hv2; obtain ⟨rfl, rfl⟩ := hv2
   have h1 := (hr.get he).2.drop off
   obtain ⟨ys, g1, g2, g3⟩ := h1.toCAs (φ := φ)
   subst hpe; simp only [CA] at hp
   exact ⟨rfl, done hp g1 (fun j' v hv => by have := g3 j' v hv; rwa [Nat.zero_add] at this) (fun i hi => by rw [A91] at hi; simp at hi) hv⟩
 cases p with
 | ptr i off =>
  simp only [J9] at hc
  cases ho : sto i with
  | none => simp [ho] at hc
  | some o =>
   cases o with
   | box cs =>
    simp only [ho, Option.map_eq_some_iff] at hc
    obtain ⟨v, hv, hv2⟩ := hc
    simp at hv2; obtain ⟨rfl, rfl⟩ := hv2
    have hob := h.obj i _ ho
    simp only [CO] at hob
    obtain ⟨ys, e, g1, g2, g3⟩ := hob
    simp only [CA] at hp
    exact ⟨rfl, done hp (g2.drop off) (fun j v hv => by rw [D9 g1]; rw [List.getElem?_drop] at hv; simpa using hv) (fun k hk => h.nod i _ ho k (B64 hk)) hv⟩
   | _ => simp [ho] at hc
 | ept i sz j off =>
  simp only [J9] at hc
  cases ho : sto i with
  | none => simp [ho] at hc
  | some o =>
   have hob := h.obj i _ ho
   cases o with
   | row rsz r es =>
    cases r with
    | false => simp [ho] at hc
    | true =>
     simp only [ho] at hc
     simp only [CO] at hob
     split at hc
     ·rename_i hsz; subst hsz
      exact rows rfl (hob.2 trivial).2 hc
     ·simp at hc
   | fro rsz es =>
    simp only [ho] at hc
    simp only [CO] at hob
    split at hc
    ·rename_i hsz; subst hsz
     exact rows rfl hob.2 hc
    ·simp at hc
   | rowA rsz es =>
    simp only [ho] at hc
    simp only [CO] at hob
    split at hc
    ·rename_i hsz; subst hsz
     obtain ⟨hl, ys, et, g1, pre, post, g2, g3, _⟩ := hob
     cases he : es[j]? with
     | none => simp [he] at hc
     | some e =>
      simp only [he, Option.map_eq_some_iff] at hc
      obtain ⟨v, hv, hv2⟩ := hc
      simp at hv2; obtain ⟨rfl, rfl⟩ := hv2
      simp only [CA] at hp
      obtain ⟨a, b, f1, f2, _⟩ := B8b hl he
      have hce : H7 A φ w e ((pre.drop (j * rsz)).take e.length) := by
       have := (g3.drop (j * rsz)).take e.length
       rw [f1, ← f2, List.append_assoc, List.drop_left, List.take_left] at this
       rw [← f2]; exact this
      refine ⟨rfl, done hp (hce.drop off) (fun q u hu => ?_) (fun k hk => h.nod i _ ho k ?_) hv⟩
      ·rw [D9 g1]
       rw [List.getElem?_drop, List.getElem?_take] at hu
       split at hu
       ·rw [List.getElem?_drop] at hu
        rw [← Array.getElem?_toList, g2, show j * rsz + off + q = j * rsz + (off + q) by omega, List.getElem?_append_left (List.getElem?_eq_some_iff.1 hu).1]
        exact hu
       ·simp at hu
      ·simp only [Ob.ids]
       rw [f1, A3t]
       obtain ⟨x, hx, hi⟩ := A3t.1 (B64 hk)
       exact ⟨x, by simp [hx], hi⟩
    ·simp at hc
   | _ => simp [ho] at hc
 | ipt cs =>
  simp only [J9, Option.map_eq_some_iff, D1d] at hc
  obtain ⟨v, hv, hv2⟩ := hc
  simp at hv2; obtain ⟨rfl, rfl⟩ := hv2
  simp only [CA] at hp
  obtain ⟨b, o, hpv, hA, hcc⟩ := hp
  obtain ⟨ys, g1, g2, g3⟩ := hcc.toCAs (φ := φ)
  exact ⟨rfl, done hpv g1 g3 (fun i hi => by rw [A91] at hi; simp at hi) hv⟩
 | _ => simp [J9] at hc

end
end Go.Sx

namespace Go.Sx
section
variable {P : Program} {E : Env} {F : Frm} {sto : Nat → Option Ob} {w : World} {A : Nat → Prop} {φ : Nat → Nat}

theorem D0.congr {w' : World} (hk : C88 A A w w') {b : Nat} : ∀ {cs : List T} {o : Nat}, (∀ k, k < cs.length → w'.cell? ⟨b, o + k, none⟩ = w.cell? ⟨b, o + k, none⟩) → D0 A w b o cs → D0 A w' b o cs
 | [], _, _, _ => by simp only [D0]
 | c :: cs, o, h, hx => by
  simp only [D0] at hx ⊢
  obtain ⟨⟨y, hy, hc⟩, hr⟩ := hx
  have h0 := h 0 (by simp)
  simp only [Nat.add_zero] at h0
  refine ⟨⟨y, by rw [h0]; exact hy, CT.keeps hk c y hc⟩, D0.congr hk (fun k hk' => ?_) hr⟩
  have := h (k + 1) (by simp; omega)
  rwa [show o + (k + 1) = o + 1 + k from by omega] at this

theorem E5.congr {w' : World} (hk : C88 A A w w') {sz b : Nat} : ∀ {es : List (List T)} {o : Nat}, (∀ k, k < es.length * sz → w'.cell? ⟨b, o + k, none⟩ = w.cell? ⟨b, o + k, none⟩) → E5 A w sz b o es → E5 A w' sz b o es
 | [], _, _, _ => by simp only [E5]
 | e :: es, o, h, hx => by
  simp only [E5] at hx ⊢
  refine ⟨⟨hx.1.1, D0.congr hk (fun k hk' => h k ?_) hx.1.2⟩, E5.congr hk (fun k hk' => ?_) hx.2⟩
  ·rw [hx.1.1] at hk'; simp only [List.length_cons, Nat.add_mul]; omega
  ·have := h (sz + k) (by simp only [List.length_cons, Nat.add_mul]; omega)
   rwa [show o + (sz + k) = o + sz + k from by omega] at this

theorem C5j : ∀ {xs : List AV} {ts : List T}, C2u xs = some ts → xs = ts.map .t
 | [], ts, h => by simp [C2u] at h; subst h; rfl
 | x :: xs, ts, h => by
  simp only [C2u] at h
  split at h
  ·rename_i a as h1 h2
   injection h with h; subst h
   have := C5j h2
   cases x <;> simp [AV.tree] at h1
   subst h1; simp [this]
  ·simp at h

theorem A0y {α : Type} {l vs : List α} {k : Nat} (h : k + vs.length ≤ l.length) : (splice l k vs).length = l.length := by
 unfold splice; simp; omega

theorem A22 {α : Type} {l vs : List α} {k i : Nat} (h : k + vs.length ≤ l.length) (hi : i < k) : (splice l k vs)[i]? = l[i]? := by
 unfold splice
 rw [List.append_assoc, List.getElem?_append_left (by simp; omega), List.getElem?_take_of_lt hi]

theorem A6d {α : Type} {l vs : List α} {k i : Nat} (h : k + vs.length ≤ l.length) (hi : k + vs.length ≤ i) : (splice l k vs)[i]? = l[i]? := by
 unfold splice
 rw [List.getElem?_append_right (by simp; omega), List.getElem?_drop]
 congr 1; simp; omega

theorem A1i {α : Type} {l vs : List α} {k i : Nat} (h : k + vs.length ≤ l.length) (h1 : k ≤ i) (h2 : i < k + vs.length) : (splice l k vs)[i]? = vs[i - k]? := by
 unfold splice
 rw [List.append_assoc, List.getElem?_append_right (by simp; omega), List.getElem?_append_left (by simp; omega)]
 congr 1; simp; omega

/-- Cells out of values that stand for trees. -/
theorem D0.of {b : Nat} {w' : World} (hg : Goes A A w w') : ∀ {ts : List T} {ys : List Value} {o : Nat}, H7 A φ w (ts.map .t) ys → (∀ j v, ys[j]? = some v → w'.cell? ⟨b, o + j, none⟩ = some v) → D0 A w' b o ts
 | [], _, _, _, _ => by simp only [D0]
 | t :: ts, ys, o, h, hc => by
  simp only [List.map_cons, H7] at h
  obtain ⟨z, zs, rfl, h1, h2⟩ := h
  simp only [D0]
  refine ⟨⟨z, by simpa using hc 0 z rfl, CT.keeps hg.keeps t z (by simpa only [CA] using h1)⟩, D0.of hg h2 fun j v hv => ?_⟩
  have := hc (j + 1) v (by simpa using hv)
  rwa [show o + (j + 1) = o + 1 + j from by omega] at this

theorem D0.splice {b : Nat} {w' : World} (hg : Goes A A w w') {e ts : List T} {ys : List Value} {o off : Nat} (he : D0 A w b o e) (hts : H7 A φ w (ts.map .t) ys) (hl : off + ts.length ≤ e.length)
  (h1 : ∀ j v, ys[j]? = some v → w'.cell? ⟨b, o + off + j, none⟩ = some v) (h2 : ∀ k, k < e.length → (k < off ∨ off + ts.length ≤ k) → w'.cell? ⟨b, o + k, none⟩ = w.cell? ⟨b, o + k, none⟩) :
  D0 A w' b o (splice e off ts) := by
 have e1 : e = e.take off ++ ((e.drop off).take ts.length ++ e.drop (off + ts.length)) := by
  rw [← List.drop_drop, List.take_append_drop, List.take_append_drop]
 have l1 : (e.take off).length = off := by simp; omega
 have l2 : ((e.drop off).take ts.length).length = ts.length := by simp; omega
 rw [e1, D0.append, D0.append, l1, l2] at he
 unfold Sx.splice
 rw [D0.append, D0.append]
 simp only [List.length_append, l1]
 refine ⟨⟨D0.congr hg.keeps (fun k hk => h2 k (by rw [l1] at hk; omega) (Or.inl (by rw [l1] at hk; exact hk))) he.1, D0.of hg hts h1⟩, ?_⟩
 have := D0.congr (w' := w') hg.keeps (fun k hk => ?_) he.2.2
 ·rwa [show o + off + ts.length = o + (off + ts.length) from by omega] at this
 ·have := h2 (off + ts.length + k) (by simp at hk; omega) (Or.inr (by omega))
  rwa [show o + (off + ts.length + k) = o + off + ts.length + k from by omega] at this

theorem D3k {α : Type} {a e b vs : List α} {off : Nat} (h : off + vs.length ≤ e.length) : splice (a ++ e ++ b) (a.length + off) vs = a ++ splice e off vs ++ b := by
 unfold splice
 have e1 : (a ++ e ++ b).take (a.length + off) = a ++ e.take off := by
  rw [List.append_assoc, List.take_length_add_append, List.take_append_of_le_length (by omega)]
 have e2 : (a ++ e ++ b).drop (a.length + off + vs.length) = e.drop (off + vs.length) ++ b := by
  rw [List.append_assoc, show a.length + off + vs.length = a.length + (off + vs.length) by omega, List.drop_length_add_append, List.drop_append_of_le_length h]
 rw [e1, e2]; simp

theorem D0b {α : Type} {p q vs : List α} {k : Nat} (h : k + vs.length ≤ p.length) : splice (p ++ q) k vs = splice p k vs ++ q := by
 unfold splice
 rw [List.take_append_of_le_length (by omega), List.drop_append_of_le_length h]; simp

theorem B2t {t : TypeId} {n : Nat} (hs : Q8 P t = some n) {b off : Nat} {ys : Array Value} {e : TypeId} (hb : w.heap[b]? = some (.cells ys e (0, 0))) {v : Value} (hn : v.cells.size = n) (hl : off + n ≤ ys.size)
  (h1 : ∀ u ∈ v.cells.toList, u.oneCell' = true) :
  (Instr.storeAt t (.pointer (some ⟨b, off, none⟩)) v).run P w = .ok () (w.setRow b (splice ys.toList off v.cells.toList).toArray) := by
 have hst := run_storeCells_at P b off e v.cells.toList 0 ys w hb (by simp [hn]; omega) h1
 simp only [Instr.storeAt, Instr.sureAddr, Sem.run_bind, Sem.run_pure, Result.andThen_ok, storeVar, O1 hs, hn, ne_eq, not_true, if_false, hst]
 simp [splice, hn]

theorem D5a (h : RS E F sto w A φ) {t : TypeId} {n id : Nat} (hs : Q8 P t = some n) {px vx : SV} {ρ : SV → AV} {pv v : Value} (hp : CA A φ w (ρ px) pv) (hv : CA A φ w (ρ vx) v)
  (hvi : ∀ i ∈ (ρ vx).ids, (sto i).isSome = true)
  {x : AV} {wr : List (Nat × Ob)} (hc : J9 id (.store n px vx) ρ sto = some (x, wr)) :
  ∃ w', (Instr.storeAt t pv v).run P w = .ok () w' ∧ Did E F sto A φ w x undef (G6 sto wr) w' A φ := by
 simp only [J9] at hc
 cases hpx : ρ px with
 | ptr i off =>
  simp only [hpx] at hc
  cases ho : sto i with
  | none => simp [ho] at hc
  | some o =>
   cases o with
   | box cs =>
    simp only [ho] at hc
    split at hc
    ·rename_i hcond
     obtain ⟨hn, hl, h1⟩ := hcond
     simp only [Option.some.injEq, Prod.mk.injEq] at hc
     obtain ⟨rfl, rfl⟩ := hc
     have hob := h.obj i _ ho
     simp only [CO] at hob
     obtain ⟨ys, e, g1, g2, g3⟩ := hob
     obtain ⟨c1, c2⟩ := B4p h1 hv
     have hvn : v.cells.size = n := by rw [← hn, ← c1.length]; simp
     have hyl := g2.length
     simp only [Array.length_toList] at hyl
     simp only [hpx, CA] at hp; subst hp
     have hlen : (splice ys.toList off v.cells.toList).toArray.size = ys.size := by
      simp only [List.size_toArray]; rw [A0y (by simp [hvn]; omega)]; simp
     have hg : Goes A A w (w.setRow (φ i) (splice ys.toList off v.cells.toList).toArray) := A1l g1 hlen (h.liv i _ ho rfl).1
     refine ⟨_, B2t hs g1 hvn (by omega) c2, ?_, hg, fun _ _ => rfl, fun k hk => J4 hk, by simp only [CA], by simp [AV.ids]⟩
     refine h.write ho rfl g1 hlen (fun j hj => ?_) ?_
     ·rcases B5e (by simpa only [Ob.ids] using hj) with hj | hj
      ·exact h.nod i _ ho j hj
      ·rw [B68] at hj; exact hvi j hj
     ·simp only [CO]
      refine ⟨_, e, setRow_heap w (φ i) ys _ e (0, 0) g1, ?_, fun y hy => ?_⟩
      ·exact H7.goes hg _ _ (fun _ _ => rfl) (g2.splice c1 off)
      ·simp only [splice, List.mem_append] at hy
       rcases hy with (hy | hy) | hy
       ·exact g3 y (List.mem_of_mem_take hy)
       ·exact c2 y hy
       ·exact g3 y (List.mem_of_mem_drop hy)
    ·simp at hc
   | _ => simp [ho] at hc
 | ept i s j off =>
  simp only [hpx] at hc
  cases ho : sto i with
  | none => simp [ho] at hc
  | some o =>
   cases o with
   | row rsz r es =>
    cases r with
    | false => simp [ho] at hc
    | true =>
     simp only [ho] at hc
     cases he : es[j]? with
     | none => simp [he] at hc
     | some ee =>
      cases ht : C2u (ρ vx).cells with
      | none => simp [he, ht] at hc
      | some ts =>
       simp only [he, ht] at hc
       split at hc
       ·rename_i hcond
        obtain ⟨rfl, hn, hl⟩ := hcond
        simp only [Option.some.injEq, Prod.mk.injEq] at hc
        obtain ⟨rfl, rfl⟩ := hc
        have hob := h.obj i _ ho
        simp only [CO] at hob
        obtain ⟨⟨ys, e, g1⟩, g2⟩ := hob.2 trivial
        have hcells := C5j ht
        have h1 : (ρ vx).cells.all AV.one = true := by rw [hcells]; simp [AV.one]
        obtain ⟨c1, c2⟩ := B4p h1 hv
        rw [hcells] at c1
        have hvn : v.cells.size = n := by rw [← hn]; have := c1.length; simpa using this
        obtain ⟨re1, re2⟩ := g2.get he
        rw [Nat.zero_add] at re2
        have hjl : j < es.length := by
         rcases Nat.lt_or_ge j es.length with hj | hj
         ·exact hj
         ·simp [List.getElem?_eq_none hj] at he
        -- the block has room for the whole row
        have hroom : es.length * rsz ≤ ys.size := by
         have hfl := g2.flatten
         rcases Nat.eq_zero_or_pos (es.length * rsz) with hz | hz
         ·omega
         ·have : es.flatten.length = es.length * rsz := hfl.2
          obtain ⟨y, hy, _⟩ := hfl.1.get (i := es.length * rsz - 1) (c := es.flatten[es.length * rsz - 1]'(by omega)) (List.getElem?_eq_getElem _)
          rw [D9 g1] at hy
          have := (Array.getElem?_eq_some_iff.1 hy).1; omega
        have hjs : (j + 1) * rsz ≤ es.length * rsz := Nat.mul_le_mul_right _ hjl
        rw [Nat.add_mul, Nat.one_mul] at hjs
        simp only [hpx, CA] at hp; subst hp
        have hfit : j * rsz + off + n ≤ ys.size := by omega
        have hlen : (splice ys.toList (j * rsz + off) v.cells.toList).toArray.size = ys.size := by
         simp only [List.size_toArray]; rw [A0y (by simp [hvn]; omega)]; simp
        have hg : Goes A A w (w.setRow (φ i) (splice ys.toList (j * rsz + off) v.cells.toList).toArray) := A1l g1 hlen (h.liv i _ ho rfl).1
        have hnew := setRow_heap w (φ i) ys (splice ys.toList (j * rsz + off) v.cells.toList).toArray e (0, 0) g1
        have hlo : ∀ k, k < j * rsz + off → (w.setRow (φ i) (splice ys.toList (j * rsz + off) v.cells.toList).toArray).cell? ⟨φ i, k, none⟩ = w.cell? ⟨φ i, k, none⟩ := fun k hk => by
         rw [D9 hnew, D9 g1, List.getElem?_toArray, A22 (by simp [hvn]; omega) hk]; simp
        have hhi : ∀ k, j * rsz + off + n ≤ k → (w.setRow (φ i) (splice ys.toList (j * rsz + off) v.cells.toList).toArray).cell? ⟨φ i, k, none⟩ = w.cell? ⟨φ i, k, none⟩ := fun k hk => by
         rw [D9 hnew, D9 g1, List.getElem?_toArray, A6d (by simp [hvn]; omega) (by simp [hvn]; omega)]; simp
        have hmid : ∀ q u, v.cells.toList[q]? = some u → (w.setRow (φ i) (splice ys.toList (j * rsz + off) v.cells.toList).toArray).cell? ⟨φ i, j * rsz + off + q, none⟩ = some u := fun q u hu => by
         have hq : q < n := by rw [← hvn]; have := (List.getElem?_eq_some_iff.1 hu).1; simpa using this
         rw [D9 hnew, List.getElem?_toArray, A1i (by simp [hvn]; omega) (by omega) (by simp [hvn]; omega)]
         rw [show j * rsz + off + q - (j * rsz + off) = q from by omega]; exact hu
        refine ⟨_, B2t hs g1 hvn hfit c2, ?_, hg, fun _ _ => rfl, fun k hk => J4 hk, by simp only [CA], by simp [AV.ids]⟩
        refine h.write ho rfl g1 hlen (fun j hj => by simp [Ob.ids] at hj) ?_
        simp only [CO]
        refine ⟨fun hf => by simp at hf, fun _ => ⟨⟨_, e, hnew⟩, ?_⟩⟩
        have hsplit : es = es.take j ++ ee :: es.drop (j + 1) := by
         have := List.getElem?_eq_some_iff.1 he
         obtain ⟨hj', hee⟩ := this
         rw [← hee, ← List.drop_eq_getElem_cons hj', List.take_append_drop]
        have hset : es.set j (splice ee off ts) = es.take j ++ splice ee off ts :: es.drop (j + 1) := by
         rw [List.set_eq_take_append_cons_drop, if_pos hjl]
        have l1 : (es.take j).length = j := by simp; omega
        rw [hset, E5.append, l1, Nat.zero_add]
        rw [hsplit, E5.append, l1, Nat.zero_add] at g2
        simp only [E5] at g2 ⊢
        refine ⟨E5.congr hg.keeps (fun k hk => ?_) g2.1, ⟨by rw [A0y (by rw [hn]; exact hl)]; exact g2.2.1.1, ?_⟩, E5.congr hg.keeps (fun k hk => ?_) g2.2.2⟩
        ·rw [l1] at hk; exact hlo _ (by omega)
        ·refine D0.splice hg g2.2.1.2 c1 (by rw [hn]; exact hl) hmid fun k hk hk2 => ?_
         rcases hk2 with hk2 | hk2
         ·exact hlo _ (by omega)
         ·exact hhi _ (by rw [hn] at hk2; omega)
        ·exact hhi _ (by omega)
       ·simp at hc
   | rowA rsz es =>
    simp only [ho] at hc
    cases he : es[j]? with
    | none => simp [he] at hc
    | some ee =>
     simp only [he] at hc
     split at hc
     ·rename_i hcond
      obtain ⟨rfl, hn, hl, h1⟩ := hcond
      simp only [Option.some.injEq, Prod.mk.injEq] at hc
      obtain ⟨rfl, rfl⟩ := hc
      have hob := h.obj i _ ho
      simp only [CO] at hob
      obtain ⟨hlen0, ys, e, g1, pre, post, g2, g3, g4⟩ := hob
      obtain ⟨c1, c2⟩ := B4p h1 hv
      have hvl : v.cells.toList.length = n := by rw [← hn, ← c1.length]
      have hvn : v.cells.size = n := by simpa using hvl
      obtain ⟨fa, fb, f1, f2, f3⟩ := B8b hlen0 he
      have hpl : pre.length = fa.length + ee.length + fb.length := by rw [g3.length, f1]; simp; omega
      have hys : ys.size = pre.length + post.length := by rw [← Array.length_toList, g2]; simp
      simp only [hpx, CA] at hp; subst hp
      have hfit : j * rsz + off + n ≤ pre.length := by omega
      have hlen : (splice ys.toList (j * rsz + off) v.cells.toList).toArray.size = ys.size := by
       simp only [List.size_toArray]; rw [A0y (by rw [hvl, Array.length_toList]; omega)]; simp
      have hg : Goes A A w (w.setRow (φ i) (splice ys.toList (j * rsz + off) v.cells.toList).toArray) := A1l g1 hlen (h.liv i _ ho rfl).1
      refine ⟨_, B2t hs g1 hvn (by omega) c2, ?_, hg, fun _ _ => rfl, fun k hk => J4 hk, by simp only [CA], by simp [AV.ids]⟩
      have hflat : (es.set j (splice ee off (ρ vx).cells)).flatten = splice es.flatten (j * rsz + off) (ρ vx).cells := by
       rw [f3, f1, ← f2, D3k (by rw [hn]; exact hl)]
      refine h.write ho rfl g1 hlen (fun q hq => ?_) ?_
      ·simp only [Ob.ids] at hq
       rw [hflat] at hq
       rcases B5e hq with hq | hq
       ·exact h.nod i _ ho q (by simpa only [Ob.ids] using hq)
       ·rw [B68] at hq; exact hvi q hq
      ·simp only [CO]
       refine ⟨fun x hx => ?_, _, e, setRow_heap w (φ i) ys _ e (0, 0) g1, splice pre (j * rsz + off) v.cells.toList, post, ?_, ?_, fun y hy => ?_⟩
       ·rcases List.mem_or_eq_of_mem_set hx with hx | hx
        ·exact hlen0 x hx
        ·rw [hx, A0y (by rw [hn]; exact hl)]
         exact hlen0 ee (List.mem_of_getElem? he)
       ·simp only [g2]
        rw [D0b (by rw [hvl]; exact hfit)]
       ·rw [hflat]
        exact H7.goes hg _ _ (fun _ _ => rfl) (g3.splice c1 _)
       ·simp only [splice, List.mem_append] at hy
        rcases hy with (hy | hy) | hy
        ·exact g4 y (List.mem_of_mem_take hy)
        ·exact c2 y hy
        ·exact g4 y (List.mem_of_mem_drop hy)
     ·simp at hc
   | _ => simp [ho] at hc
 | _ => simp [hpx] at hc

end
end Go.Sx

namespace Go.Sx
section
variable {P : Program} {E : Env} {F : Frm} {sto : Nat → Option Ob} {w : World} {A : Nat → Prop} {φ : Nat → Nat} {ds : List Deferred}

theorem A6f {t : TypeId} {z : List T} (h : B50 P t = some z) : ∃ zv, (∀ w, (zeroValue t).run P w = .ok zv w) ∧ (∀ A φ w, H7 A φ w (z.map .t) zv.cells.toList) ∧ (∀ u ∈ zv.cells.toList, u.oneCell' = true) ∧ z = zv.cells.toList.map .v := by
 unfold B50 at h
 cases hi : P.info? t with
 | none => simp [hi] at h
 | some i =>
  simp only [hi] at h
  cases hz : i.zero with
  | none => simp [hz] at h
  | some zv =>
   simp only [hz] at h
   split at h
   ·rename_i hc
    injection h with h; subst h
    have h1 : ∀ u ∈ zv.cells.toList, u.oneCell' = true := fun u hu => (Array.all_eq_true_iff_forall_mem.1 hc) u (Array.mem_toList_iff.1 hu)
    refine ⟨zv, fun w => by simp [zeroValue, typeInfo, hi, hz], fun A φ w => ?_, h1, rfl⟩
    generalize zv.cells.toList = l at h1
    induction l with
    | nil => simp [H7]
    | cons a l ih =>
     simp only [List.map_cons, H7]
     exact ⟨a, l, rfl, by simp [CA, CT, h1 a], ih fun u hu => h1 u (by simp [hu])⟩
   ·simp at h

theorem O7 {id : Nat} (h : Q7 sto id = true) : sto id = none := by
 unfold Q7 at h; simp only [Bool.and_eq_true] at h; simpa using h.1

theorem A32 {id : Nat} (h : Q7 sto id = true) : 100 ≤ id := by
 unfold Q7 at h; simp only [Bool.and_eq_true, decide_eq_true_eq] at h; exact h.2

theorem A9g (h : RS E F sto w A φ) (o : Obj) : Goes A A w (w.alloc o) := A47 h.alt o

theorem D51 (h : RS E F sto w A φ) {id : Nat} (hn : Q7 sto id = true) {cs : List AV} {ys : Array Value} (e : TypeId) (hc : H7 A φ w cs ys.toList) (h1 : ∀ u ∈ ys.toList, u.oneCell' = true) (hi : ∀ j ∈ B5 cs, (sto j).isSome = true) :
  Did E F sto A φ w (.ptr id 0) (.pointer (some ⟨w.heap.size, 0, none⟩)) (G6 sto [(id, .box cs)]) (w.alloc (.cells ys e)) A (upd φ id w.heap.size) := by
 have hn' : sto id = none := O7 hn
 have hne : ∀ j, (sto j).isSome = true → j ≠ id := fun j hj e => by rw [e, hn'] at hj; simp at hj
 refine ⟨h.alloc hn' (A32 hn) ys e _ hi ?_, A9g h _, fun j hj => D5 _ _ (hne j hj), fun j hj => J4 hj, by simp only [CA, A1e], ?_⟩
 ·simp only [CO]
  exact ⟨ys, e, by show (w.heap.push _)[w.heap.size]? = _; simp, H7.goes (A9g h _) _ _ (fun j hj => D5 _ _ (hne j (hi j hj))) hc, h1⟩
 ·intro i hi; simp [AV.ids] at hi; subst hi; simp [G6]

theorem C9h (vs : List Value) : ∀ (k off : Nat) (cells : Array Value), off + k + vs.length ≤ cells.size →
  ((vs.zipIdx k).foldl (fun cs p => cs.setIfInBounds (off + p.2) p.1) cells).toList = splice cells.toList (off + k) vs := by
 induction vs with
 | nil => intro k off cells _; simp [splice]
 | cons v vs ih =>
  intro k off cells hl
  simp only [List.length_cons] at hl
  simp only [List.zipIdx_cons, List.foldl_cons]
  rw [ih (k + 1) off (cells.setIfInBounds (off + k) v) (by simp; omega)]
  apply List.ext_getElem?
  intro i
  have hL : off + (k + 1) + vs.length ≤ (cells.setIfInBounds (off + k) v).toList.length := by simp; omega
  have hR : off + k + (v :: vs).length ≤ cells.toList.length := by simp; omega
  by_cases h1 : i < off + k
  ·rw [A22 hL (by omega), A22 hR h1]
   simp only [Array.toList_setIfInBounds]
   rw [List.getElem?_set_ne (by omega)]
  ·by_cases h2 : i = off + k
   ·subst h2
    rw [A22 hL (by omega), A1i hR (by omega) (by simp)]
    simp only [Array.toList_setIfInBounds, Nat.sub_self, List.getElem?_cons_zero]
    rw [List.getElem?_set_self (by simp; omega)]
   ·by_cases h3 : i < off + (k + 1) + vs.length
    ·rw [A1i hL (by omega) h3, A1i hR (by omega) (by simp; omega)]
     rw [show i - (off + k) = (i - (off + (k + 1))) + 1 from by omega, List.getElem?_cons_succ]
    ·rw [A6d hL (by omega), A6d hR (by simp; omega)]
     simp only [Array.toList_setIfInBounds]
     rw [List.getElem?_set_ne (by omega)]

theorem D8o (v : Value) (off : Nat) (cells : Array Value) (h : off + v.cells.size ≤ cells.size) :
  (v.cells.zipIdx.foldl (fun cs p => cs.setIfInBounds (off + p.2) p.1) cells).toList = splice cells.toList off v.cells.toList := by
 rw [← Array.foldl_toList, Array.toList_zipIdx]
 exact C9h v.cells.toList 0 off cells (by simpa using h)

/-- One part laid over the cells. -/
theorem B65 {cs : List AV} {cells : Array Value} {x : AV} {v : Value} {off sz : Nat} {place : Nat → Option (Nat × Nat)} {i : Nat} (hpl : place i = some (off, sz)) (hc : H7 A φ w cs cells.toList) (hv : CA A φ w x v)
  (hcond : x.cells.length = sz ∧ off + sz ≤ cs.length ∧ x.cells.all AV.one = true) (rest : List (Nat × Value)) :
  ∃ cells', Instr.fill place cells ((i, v) :: rest) = Instr.fill place cells' rest ∧ H7 A φ w (splice cs off x.cells) cells'.toList := by
 obtain ⟨h1, h2, h3⟩ := hcond
 obtain ⟨c1, c2⟩ := B4p h3 hv
 have hn : v.cells.size = sz := by rw [← h1, ← c1.length]; simp
 have hl : cells.size = cs.length := by have := hc.length; simpa using this
 refine ⟨v.cells.zipIdx.foldl (fun cs p => cs.setIfInBounds (off + p.2) p.1) cells, ?_, ?_⟩
 ·conv => lhs; unfold Instr.fill
  simp only [hpl]
  rw [if_neg]
  simp only [ne_eq, Bool.or_eq_true, decide_eq_true_eq, not_or, Decidable.not_not]
  exact ⟨hn, by omega⟩
 ·rw [D8o v off cells (by omega)]
  exact hc.splice c1 off

theorem B7p {cs : List AV} {x : AV} {off : Nat} (h1 : ∀ j ∈ B5 cs, (sto j).isSome = true) (h2 : ∀ j ∈ x.ids, (sto j).isSome = true) : ∀ j ∈ B5 (splice cs off x.cells), (sto j).isSome = true := by
 intro j hj
 rcases B5e hj with hj | hj
 ·exact h1 j hj
 ·rw [B68] at hj; exact h2 j hj

section
variable {G : Nat → Option (List T)} {st : St} {n : Nat} {a : Act}

theorem C2o (hG : GOK E G) (h : RS E F st.sto w A φ) (r : RE ds st n a w A φ) (fs : Array Field) (place : Nat → Option (Nat × Nat)) (hpl : ∀ (i : Nat) (f : Field), fs[i]? = some f → ∀ m, Q8 P f.type = some m → place i = some (f.offset, m)) :
  ∀ (ps : List (Nat × Operand)) (ps' : List (Nat × Nat × SV)) (cs : List AV) (cells : Array Value) (res : List AV), C5t P G fs ps = some ps' → H7 A φ w cs cells.toList → (∀ j ∈ B5 cs, (st.sto j).isSome = true) → B3w (·.ev st.env) cs ps' = some res →
   ∃ cells', Instr.fill place cells (ps.map fun p => (p.1, a.eval p.2)) = some cells' ∧ H7 A φ w res cells'.toList ∧ ∀ j ∈ B5 res, (st.sto j).isSome = true
 | [], ps', cs, cells, res, h1, h2, h3, h4 => by
  simp only [C5t, Option.some.injEq] at h1; subst h1
  simp only [B3w, Option.some.injEq] at h4; subst h4
  exact ⟨cells, rfl, h2, h3⟩
 | (i, x) :: ps, ps', cs, cells, res, h1, h2, h3, h4 => by
  simp only [C5t] at h1
  split at h1
  ·rename_i f sv tl hf hx htl
   split at h1
   ·rename_i m hm
    injection h1 with h1; subst h1
    simp only [B3w] at h4
    split at h4
    ·rename_i hcond
     have ev := M9 hG h r hx
     obtain ⟨cells', e1, e2⟩ := B65 (hpl i f hf m hm) h2 ev.1 hcond (ps.map fun p => (p.1, a.eval p.2))
     obtain ⟨c2, f1, f2⟩ := C2o hG h r fs place hpl ps tl _ cells' res htl e2 (B7p h3 ev.2) h4
     exact ⟨c2, by rw [List.map_cons, e1]; exact f1, f2⟩
    ·simp at h4
   ·simp at h1
  ·simp at h1

theorem C58 (hG : GOK E G) (h : RS E F st.sto w A φ) (r : RE ds st n a w A φ) (m : Nat) :
  ∀ (ps : List (Nat × Operand)) (ps' : List (Nat × Nat × SV)) (cs : List AV) (cells : Array Value) (res : List AV), C5k G m ps = some ps' → H7 A φ w cs cells.toList → (∀ j ∈ B5 cs, (st.sto j).isSome = true) → B3w (·.ev st.env) cs ps' = some res →
   ∃ cells', Instr.fill (fun i => some (i * m, m)) cells (ps.map fun p => (p.1, a.eval p.2)) = some cells' ∧ H7 A φ w res cells'.toList ∧ ∀ j ∈ B5 res, (st.sto j).isSome = true
 | [], ps', cs, cells, res, h1, h2, h3, h4 => by
  simp only [C5k, Option.some.injEq] at h1; subst h1
  simp only [B3w, Option.some.injEq] at h4; subst h4
  exact ⟨cells, rfl, h2, h3⟩
 | (i, x) :: ps, ps', cs, cells, res, h1, h2, h3, h4 => by
  simp only [C5k] at h1
  split at h1
  ·rename_i sv tl hx htl
   injection h1 with h1; subst h1
   simp only [B3w] at h4
   split at h4
   ·rename_i hcond
    have ev := M9 hG h r hx
    obtain ⟨cells', e1, e2⟩ := B65 (place := fun i => some (i * m, m)) rfl h2 ev.1 hcond (ps.map fun p => (p.1, a.eval p.2))
    obtain ⟨c2, f1, f2⟩ := C58 hG h r m ps tl _ cells' res htl e2 (B7p h3 ev.2) h4
    exact ⟨c2, by rw [List.map_cons, e1]; exact f1, f2⟩
   ·simp at h4
  ·simp at h1

theorem C4j (fs : List Field) (h : ∀ f ∈ fs, (Q8 P f.type).isSome = true) (w : World) :
  (fs.mapM (fun f => do pure (f.offset, ← sizeOf f.type) : Field → Sem (Nat × Nat))).run P w = .ok (fs.map fun f => (f.offset, (Q8 P f.type).getD 0)) w := by
 induction fs with
 | nil => simp
 | cons f fs ih =>
  obtain ⟨m, hm⟩ := Option.isSome_iff_exists.1 (h f (by simp))
  simp only [List.mapM_cons, Sem.run_bind, O1 hm, Result.andThen_ok, Sem.run_pure, ih fun g hg => h g (by simp [hg]), List.map_cons, hm, Option.getD_some]

theorem D5f (hG : GOK E G) (h : RS E F st.sto w A φ) (r : RE ds st n a w A φ) {t : TypeId} {ps : Array (Nat × Operand)} {so : SOp} (hs : J5 P G (.build t ps) = some so) {id : Nat} {x : AV} {wr : List (Nat × Ob)}
  (hc : J9 id so (·.ev st.env) st.sto = some (x, wr)) :
  ∃ v, (Instr.build t (ps.map fun (i, x) => (i, a.eval x))).run P w = .ok v w ∧ Did E F st.sto A φ w x v (G6 st.sto wr) w A φ := by
 simp only [J5] at hs
 split at hs
 ·rename_i z fs hz hu
  split at hs
  ·rename_i hall
   simp only [Option.map_eq_some_iff] at hs
   obtain ⟨ps', hps, rfl⟩ := hs
   simp only [J9] at hc
   split at hc
   ·rename_i res hres
    simp only [Option.some.injEq, Prod.mk.injEq] at hc
    obtain ⟨rfl, rfl⟩ := hc
    obtain ⟨zv, z1, z2, z3, z4⟩ := A6f hz
    have hall' : ∀ (f : Field), f ∈ fs.toList → (Q8 P f.type).isSome = true := fun f hf => (Array.all_eq_true_iff_forall_mem.1 hall) f (Array.mem_toList_iff.1 hf)
    have hpl : ∀ (i : Nat) (f : Field), fs[i]? = some f → ∀ m, Q8 P f.type = some m → ((fs.toList.map fun (f : Field) => (f.offset, (Q8 P f.type).getD 0)).toArray)[i]? = some (f.offset, m) := by
     intro i f hf m hm
     simp [hf, hm]
    obtain ⟨cells', f1, f2, f3⟩ := C2o hG h r fs (fun i => ((fs.toList.map fun (f : Field) => (f.offset, (Q8 P f.type).getD 0)).toArray)[i]?) hpl ps.toList ps' _ zv.cells res hps (z2 A φ w) (fun j hj => by rw [A91] at hj; simp at hj) hres
    refine ⟨.agg cells', ?_, Did.same h ?_ ?_⟩
    ·simp only [Instr.build, Sem.run_bind, z1, Result.andThen_ok, run_underlying hu]
     rw [Array.mapM_eq_mapM_toList]
     simp only [Sem.run_map, C4j fs.toList hall', Result.andThen_ok, Array.toList_map]
     rw [show (ps.toList.map fun x => match x with | (i, x) => (i, a.eval x)) = ps.toList.map fun p => (p.1, a.eval p.2) from rfl]
     rw [f1]; rfl
    ·simp only [CA]; exact ⟨_, rfl, f2⟩
    ·simpa only [AV.ids] using f3
   ·simp at hc
  ·simp at hs
 ·rename_i z len e hz hu
  split at hs
  ·rename_i m hm
   simp only [Option.map_eq_some_iff] at hs
   obtain ⟨ps', hps, rfl⟩ := hs
   simp only [J9] at hc
   split at hc
   ·rename_i res hres
    simp only [Option.some.injEq, Prod.mk.injEq] at hc
    obtain ⟨rfl, rfl⟩ := hc
    obtain ⟨zv, z1, z2, z3, z4⟩ := A6f hz
    obtain ⟨cells', f1, f2, f3⟩ := C58 hG h r m ps.toList ps' _ zv.cells res hps (z2 A φ w) (fun j hj => by rw [A91] at hj; simp at hj) hres
    refine ⟨.agg cells', ?_, Did.same h ?_ ?_⟩
    ·simp only [Instr.build, Sem.run_bind, z1, Result.andThen_ok, run_underlying hu, O1 hm, Array.toList_map]
     rw [show (ps.toList.map fun x => match x with | (i, x) => (i, a.eval x)) = ps.toList.map fun p => (p.1, a.eval p.2) from rfl]
     rw [f1]; rfl
    ·simp only [CA]; exact ⟨_, rfl, f2⟩
    ·simpa only [AV.ids] using f3
   ·simp at hc
  ·simp at hs
 ·simp at hs
end
end
end Go.Sx

namespace Go.Sx
section
variable {P : Program} {E : Env} {F : Frm} {sto : Nat → Option Ob} {w : World} {A : Nat → Prop} {φ : Nat → Nat}

theorem U3 {x y : Value} (h : CA A φ w (.t (.v x)) y) : y = x ∧ x.oneCell' = true := by simpa only [CA, CT] using h

theorem B45 {x : Value} (h : x.oneCell' = true) : CA A φ w (.t (.v x)) x := by simp only [CA, CT]; exact ⟨trivial, h⟩

theorem D2n {op : BinOp} {t : TypeId} {x y : Operand} {k k' : IntKind} {a b : Int} {v : Value} (h : B4v op (.t (.v (.int k a))) (.t (.v (.int k' b))) = some v) :
  (do eqGuard op t x y (.int k a) (.int k' b); binOp op t (.int k a) (.int k' b) : Sem Value).run P w = .ok v w ∧ v.oneCell' = true := by
 have hg : (eqGuard op t x y (.int k a) (.int k' b)).run P w = .ok () w := by
  cases op <;> simp [eqGuard]
 simp only [Sem.run_bind, hg, Result.andThen_ok]
 cases op
 case shl | shr =>
  simp only [B4v, A3x] at h
  split at h
  ·simp at h
  ·rename_i hn
   injection h with h; subst h
   simp [binOp, Op.shift, hn, Value.oneCell']
 case add | sub | mul =>
  simp only [B4v, G9] at h
  split at h
  ·rename_i hk; subst hk
   injection h with h; subst h
   simp [binOp, Op.intArith, Value.oneCell']
  ·simp at h
 case quo | rem =>
  simp only [B4v, G9] at h
  split at h
  ·rename_i hk; subst hk
   split at h
   ·simp at h
   ·rename_i hb
    injection h with h; subst h
    simp [binOp, Op.intDiv, hb, Value.oneCell']
  ·simp at h
 case and | or | xor | andNot =>
  simp only [B4v, G9] at h
  split at h
  ·rename_i hk; subst hk
   injection h with h; subst h
   simp [binOp, Op.intBits, Value.oneCell']
  ·simp at h
 case eql | neq | lss | leq | gtr | geq =>
  simp only [B4v, G9] at h
  split at h
  ·rename_i hk; subst hk
   injection h with h; subst h
   simp [binOp, Op.intCmp, Value.oneCell']
  ·simp at h

theorem D2y {op : BinOp} {t : TypeId} {x y : Operand} {a b : ByteArray} {v : Value} (h : B4v op (.t (.v (.string a))) (.t (.v (.string b))) = some v) :
  (do eqGuard op t x y (.string a) (.string b); binOp op t (.string a) (.string b) : Sem Value).run P w = .ok v w ∧ v.oneCell' = true := by
 have hg : (eqGuard op t x y (.string a) (.string b)).run P w = .ok () w := by
  cases op <;> simp [eqGuard]
 simp only [Sem.run_bind, hg, Result.andThen_ok]
 cases op
 case add =>
  simp only [B4v, S2] at h
  split at h
  ·simp at h
  ·rename_i hn
   injection h with h; subst h
   simp only [binOp, Op.stringOp, Value.oneCell', and_true]
   rw [if_neg hn]; rfl
 case eql | neq | lss | leq | gtr | geq =>
  simp only [B4v, S2] at h
  injection h with h; subst h
  simp [binOp, Op.stringOp, Value.oneCell']
 all_goals simp [B4v, S2] at h

theorem D6d {op : BinOp} {t : TypeId} {x y : Operand} {k k' : FloatKind} {a b : Nat} {v : Value} (h : B4v op (.t (.v (.float k a))) (.t (.v (.float k' b))) = some v) :
  (do eqGuard op t x y (.float k a) (.float k' b); binOp op t (.float k a) (.float k' b) : Sem Value).run P w = .ok v w ∧ v.oneCell' = true := by
 have hg : (eqGuard op t x y (.float k a) (.float k' b)).run P w = .ok () w := by
  cases op <;> simp [eqGuard]
 simp only [Sem.run_bind, hg, Result.andThen_ok]
 simp only [B4v] at h
 split at h
 ·rename_i hk; subst hk
  cases op
  case add | sub | mul | quo =>
   simp only [D0q, Option.map_eq_some_iff] at h
   obtain ⟨r, hr, rfl⟩ := h
   simp [binOp, Op.floatArith, hr, Value.oneCell']
  case eql | neq | lss | leq | gtr | geq =>
   simp only [D0q] at h
   injection h with h; subst h
   simp [binOp, Op.floatCmp, Value.oneCell']
  all_goals simp [D0q] at h
 ·simp at h

theorem D3c {op : BinOp} {x y : AV} {v : Value} (h : B4v op x y = some v) : (∃ k a k' b, x = .t (.v (.int k a)) ∧ y = .t (.v (.int k' b))) ∨ (∃ a b, x = .t (.v (.string a)) ∧ y = .t (.v (.string b))) ∨ (∃ k a k' b, x = .t (.v (.float k a)) ∧ y = .t (.v (.float k' b))) := by
 unfold B4v at h
 split at h
 ·exact Or.inl ⟨_, _, _, _, rfl, rfl⟩
 ·exact Or.inr (Or.inl ⟨_, _, rfl, rfl⟩)
 ·exact Or.inr (Or.inr ⟨_, _, _, _, rfl, rfl⟩)
 ·simp at h

theorem E0s {op : BinOp} {t : TypeId} {x y : Operand} {xa ya : AV} {xv yv v : Value} (h : B4v op xa ya = some v) (hx : CA A φ w xa xv) (hy : CA A φ w ya yv) :
  (do eqGuard op t x y xv yv; binOp op t xv yv : Sem Value).run P w = .ok v w ∧ v.oneCell' = true := by
 rcases D3c h with ⟨k, a, k', b, rfl, rfl⟩ | ⟨a, b, rfl, rfl⟩ | ⟨k, a, k', b, rfl, rfl⟩
 ·rw [(U3 hx).1, (U3 hy).1]; exact D2n h
 ·rw [(U3 hx).1, (U3 hy).1]; exact D2y h
 ·rw [(U3 hx).1, (U3 hy).1]; exact D6d h

theorem E18 {k : EK} {x y : AV} {xv yv : Value} {r : Bool} (h : eqC k x y = some r) (hx : CA A φ w x xv) (hy : CA A φ w y yv) : eqV k xv yv = some r := by
 unfold eqC at h
 split at h
 ·rw [(U3 hx).1, (U3 hy).1]; exact h
 ·rw [(U3 hx).1, (U3 hy).1]; exact h
 ·rw [(U3 hx).1, (U3 hy).1]; exact h
 ·simp at h

theorem D4r : ∀ {ks : List EK} {xs ys : List AV} {us vs : List Value} {r : Bool}, C6e ks xs ys = some r → H7 A φ w xs us → H7 A φ w ys vs → A60 ks us vs = some r
 | [], [], [], us, vs, r, h, hx, hy => by simp only [H7] at hx hy; subst hx; subst hy; exact h
 | [], _ :: _, _, _, _, _, h, _, _ => by simp [C6e] at h
 | [], [], _ :: _, _, _, _, h, _, _ => by simp [C6e] at h
 | _ :: _, [], _, _, _, _, h, _, _ => by simp [C6e] at h
 | _ :: _, _ :: _, [], _, _, _, h, _, _ => by simp [C6e] at h
 | k :: ks, x :: xs, y :: ys, us, vs, r, h, hx, hy => by
  simp only [H7] at hx hy
  obtain ⟨u, us', rfl, h1, h2⟩ := hx
  obtain ⟨v, vs', rfl, h3, h4⟩ := hy
  simp only [C6e] at h
  split at h
  ·rename_i p q hp hq
   simp only [A60, E18 hp h1 h3, D4r hq h2 h4]; exact h
  ·simp at h

theorem D9u {op : BinOp} {t : TypeId} {x y : Operand} {xs ys : List AV} {xv yv : Value} {ks : List EK} {b : Bool} (hop : op = .eql ∨ op = .neq) (hu : (P.underlying t).any S5 = true) (hg : P.eqGuardType P.depth t = false)
  (hf : C36 P 20 t = some ks) (hx : CA A φ w (.ag xs) xv) (hy : CA A φ w (.ag ys) yv) (he : C6e ks xs ys = some b) :
  (do eqGuard op t x y xv yv; binOp op t xv yv : Sem Value).run P w = .ok (.bool (if op = .neq then !b else b)) w := by
 simp only [CA] at hx hy
 obtain ⟨us, rfl, hx⟩ := hx
 obtain ⟨vs, rfl, hy⟩ := hy
 have h := C9v (P := P) w 20 t ks hf 10000 (by omega) us.toList vs.toList b (D4r he hx hy)
 have ha : A3s P t = true := hu
 simp only [ha, A50, if_true, Array.toArray_toList] at h
 simp only [Sem.run_bind, run_eqGuard_agg w op t x y us vs hg, Result.andThen_ok]
 rcases hop with rfl | rfl
 ·rw [run_eql_struct, h]; simp
 ·rw [run_neq_struct, h]; simp

theorem E0i {neg : Bool} {t : TypeId} {x y : Operand} {a b : Bool} (hu : P.underlying t = some .bool) :
  (do eqGuard (if neg then .neq else .eql) t x y (.bool a) (.bool b); binOp (if neg then .neq else .eql) t (.bool a) (.bool b) : Sem Value).run P w = .ok (.bool (if neg then !(a == b) else a == b)) w := by
 have h : (Op.equal t (.bool a) (.bool b)).run P w = .ok (a == b) w := run_equalIn_bool w 9999 t a b hu
 cases neg with
 | false =>
  have hg : (eqGuard .eql t x y (.bool a) (.bool b)).run P w = .ok () w := by simp [eqGuard]
  have hb : binOp .eql t (.bool a) (.bool b) = (do pure (.bool (← Op.equal t (.bool a) (.bool b))) : Sem Value) := by simp only [binOp]
  simp only [Bool.false_eq_true, if_false, Sem.run_bind, hg, Result.andThen_ok, hb, h, Sem.run_pure]
 | true =>
  have hg : (eqGuard .neq t x y (.bool a) (.bool b)).run P w = .ok () w := by simp [eqGuard]
  have hb : binOp .neq t (.bool a) (.bool b) = (do pure (.bool (!(← Op.equal t (.bool a) (.bool b)))) : Sem Value) := by simp only [binOp]
  simp only [if_true, Sem.run_bind, hg, Result.andThen_ok, hb, h, Sem.run_pure]

theorem E1v {op : UnOp} {x : AV} {xv v : Value} (h : unV op x = some v) (hx : CA A φ w x xv) : (Op.unary op xv).run P w = .ok v w ∧ v.oneCell' = true := by
 unfold unV at h
 split at h
 ·rw [(U3 hx).1]
  cases op <;> simp at h <;> subst h <;> simp [Op.unary, Op.intArith, Op.intBits, Value.oneCell']
 ·rw [(U3 hx).1]
  cases op <;> simp at h <;> subst h <;> simp [Op.unary, Value.oneCell']
 ·rw [(U3 hx).1]
  cases op <;> simp at h <;> subst h <;> simp [Op.unary, Value.oneCell']
 ·simp at h

/-- Is an interface's value held against the nil that stands in the text? -/
theorem D6k {neg : Bool} {t : TypeId} {ms : Array (String × TypeId)} {x : Operand} {c xv : Value} {b : Bool} (hu : P.underlying t = some (.interface ms)) (hx : CA A φ w (.ifc b) xv) :
  (do eqGuard (if neg then .neq else .eql) t x (.const c) xv .nilIface; binOp (if neg then .neq else .eql) t xv .nilIface : Sem Value).run P w = .ok (.bool (b == neg)) w := by
 simp only [CA] at hx
 cases b with
 | false =>
  have e := hx.2 rfl; subst e
  have h0 : ∀ d, (Op.equalIn (d + 1) t .nilIface .nilIface).run P w = .ok true w := by
   intro d; simp only [Op.equalIn, Sem.run_bind, run_underlying hu, Result.andThen_ok]; rfl
  have h : (Op.equal t .nilIface .nilIface).run P w = .ok true w := h0 9999
  have hg : ∀ op, (eqGuard op t x (.const c) .nilIface .nilIface).run P w = .ok () w := by intro op; cases op <;> simp [eqGuard]
  cases neg with
  | false =>
   have hb : binOp .eql t .nilIface .nilIface = (do pure (.bool (← Op.equal t .nilIface .nilIface)) : Sem Value) := by simp only [binOp]
   simp only [Bool.false_eq_true, if_false, Sem.run_bind, hg, Result.andThen_ok, hb, h, Sem.run_pure]; rfl
  | true =>
   have hb : binOp .neq t .nilIface .nilIface = (do pure (.bool (!(← Op.equal t .nilIface .nilIface))) : Sem Value) := by simp only [binOp]
   simp only [if_true, Sem.run_bind, hg, Result.andThen_ok, hb, h, Sem.run_pure]; rfl
 | true =>
  obtain ⟨tt, v, e⟩ := hx.1 rfl; subst e
  have h0 : ∀ d, (Op.equalIn (d + 1) t (.iface tt v) .nilIface).run P w = .ok false w := by
   intro d; simp only [Op.equalIn, Sem.run_bind, run_underlying hu, Result.andThen_ok]; rfl
  have h : (Op.equal t (.iface tt v) .nilIface).run P w = .ok false w := h0 9999
  have hg : ∀ op, (eqGuard op t x (.const c) (.iface tt v) .nilIface).run P w = .ok () w := by intro op; cases op <;> simp [eqGuard]
  cases neg with
  | false =>
   have hb : binOp .eql t (.iface tt v) .nilIface = (do pure (.bool (← Op.equal t (.iface tt v) .nilIface)) : Sem Value) := by simp only [binOp]
   simp only [Bool.false_eq_true, if_false, Sem.run_bind, hg, Result.andThen_ok, hb, h, Sem.run_pure]; rfl
  | true =>
   have hb : binOp .neq t (.iface tt v) .nilIface = (do pure (.bool (!(← Op.equal t (.iface tt v) .nilIface))) : Sem Value) := by simp only [binOp]
   simp only [if_true, Sem.run_bind, hg, Result.andThen_ok, hb, h, Sem.run_pure]; rfl

theorem D2x {i o off : Nat} {v : Value} (h : CA A φ w (.ptr i o) v) : ∃ b, v = .pointer (some b) ∧ CA A φ w (.ptr i (o + off)) (.pointer (some (b.add off))) := by
 simp only [CA] at h; subst h
 exact ⟨_, rfl, by simp only [CA, A2w]⟩

theorem D3f {i s j o off : Nat} {v : Value} (h : CA A φ w (.ept i s j o) v) : ∃ b, v = .pointer (some b) ∧ CA A φ w (.ept i s j (o + off)) (.pointer (some (b.add off))) := by
 simp only [CA] at h; subst h
 exact ⟨_, rfl, by simp only [CA, A2w]; rw [Nat.add_assoc]⟩

theorem D39 {cs : List T} {off : Nat} {v : Value} (h : CA A φ w (.ipt cs) v) : ∃ b, v = .pointer (some b) ∧ CA A φ w (.ipt (cs.drop off)) (.pointer (some (b.add off))) := by
 simp only [CA] at h
 obtain ⟨b, o, rfl, hA, hc⟩ := h
 refine ⟨_, rfl, ?_⟩
 simp only [CA, A2w]
 exact ⟨b, o + off, rfl, hA, hc.drop off⟩

/-- A place within what a pointer points at. -/
theorem D91 {x x' : AV} {off : Nat} {v : Value} (h : CA A φ w x v) (hx : x.padd off = some x') : ∃ b, v = .pointer (some b) ∧ CA A φ w x' (.pointer (some (b.add off))) ∧ x'.ids = x.ids := by
 cases x <;> simp [AV.padd] at hx <;> subst hx
 ·obtain ⟨b, h1, h2⟩ := D2x (off := off) h; exact ⟨b, h1, h2, rfl⟩
 ·obtain ⟨b, h1, h2⟩ := D3f (off := off) h; exact ⟨b, h1, h2, rfl⟩
 ·obtain ⟨b, h1, h2⟩ := D39 (off := off) h; exact ⟨b, h1, h2, rfl⟩

theorem D1e {t : TypeId} {fs : Array Field} {i : Nat} {f : Field} {n : Nat} (hu : P.underlying t = some (.struct fs)) (hf : fs[i]? = some f) (hn : Q8 P f.type = some n) (h0 : n ≠ 0) (b : Addr) :
  (Instr.fieldAt t (.pointer (some b)) i).run P w = .ok (.pointer (some (b.add f.offset))) w := by
 simp [Instr.fieldAt, run_underlying hu, hf, Instr.sureAddr, fieldPlace, O1 hn, h0]

theorem C8a {e : TypeId} {d : TypeDesc} {n off : Nat} (hu : P.underlying e = some d) (hs : Q8 P e = some n) {cs : List AV} {ys : Array Value} {x : AV} (h : H7 A φ w cs ys.toList) (hp : B0b (S5 d) n (cs.drop off) = some x) :
  ∃ v, (part e ys off).run P w = .ok v w ∧ CA A φ w x v ∧ ∀ id ∈ x.ids, id ∈ B5 cs := by
 have ha : A3s P e = S5 d := by simp [A3s, hu]
 have hd := h.drop off
 obtain ⟨vs, h1, h2, h3, h4⟩ := D03 hd hp
 simp only [part, Sem.run_bind, C1o (t := e) (by rw [hu]; rfl), Result.andThen_ok, ha]
 cases hagg : S5 d with
 | true =>
  simp only [hagg, if_true] at h2 hp
  simp only [B0b, if_true] at hp
  split at hp
  ·rename_i hl
   injection hp with hp; subst hp
   refine ⟨.agg (ys.extract off (off + n)), by simp [O1 hs], ?_, fun id hid => B64 (h4 id hid)⟩
   simp only [CA]
   refine ⟨_, rfl, ?_⟩
   have := hd.take n
   rwa [show (ys.extract off (off + n)).toList = (ys.toList.drop off).take n from by simp [List.take_drop]]
  ·simp at hp
 | false =>
  rw [hagg] at hp
  simp only [B0b, Bool.false_eq_true, if_false] at hp
  obtain ⟨y, hy, hc⟩ := hd.get hp
  rw [List.getElem?_drop] at hy
  simp only [Nat.add_zero, Array.getElem?_toList] at hy
  refine ⟨y, by simp [hy], hc, fun id hid => B64 (h4 id hid)⟩

theorem C38 {t e : TypeId} {len n : Nat} (hu : P.underlying t = some (.array len e)) (hs : Q8 P e = some n) (b : Addr) {k : IntKind} {i : Int} (h0 : 0 ≤ i) (h1 : i < len) :
  (Instr.indexAt t (.pointer (some b)) (.int k i)).run P w = .ok (.pointer (some (b.add (i.toNat * n)))) w := by
 simp [Instr.indexAt, asIntOf, run_underlying hu, Instr.sureAddr, h0, h1, O1 hs]

theorem B53 {t e : TypeId} {n len cap : Nat} (hu : P.underlying t = some (.slice e)) (hs : Q8 P e = some n) (b : Addr) {k : IntKind} {i : Int} (h0 : 0 ≤ i) (h1 : i < len) :
  (Instr.indexAt t (.slice (some b) len cap) (.int k i)).run P w = .ok (.pointer (some (b.add (i.toNat * n)))) w := by
 simp [Instr.indexAt, asIntOf, run_underlying hu, h0, h1, O1 hs]

theorem C6y {t e : TypeId} {len n : Nat} (hu : P.underlying t = some (.array len e)) (hs : Q8 P e = some n) (ys : Array Value) {k : IntKind} {i : Int} (h0 : 0 ≤ i) (h1 : i < len) :
  (Instr.index t (.agg ys) (.int k i)).run P w = (part e ys (i.toNat * n)).run P w := by
 simp only [Instr.index, asIntOf, run_underlying hu, Sem.run_bind, Sem.run_pure, Result.andThen_ok, h0, h1, and_self, if_true, O1 hs]

theorem C6s {t : TypeId} (hu : P.underlying t = some .string) (s : ByteArray) {k : IntKind} {i : Int} (h0 : 0 ≤ i) {b : UInt8} (hb : s[i.toNat]? = some b) :
  (Instr.index t (.string s) (.int k i)).run P w = .ok (.int .u8 b.toNat) w := by
 simp [Instr.index, asIntOf, run_underlying hu, h0, hb]

theorem D4g {x : AV} {v : Value} {n : Nat} (h : D6b x = some n) (hx : CA A φ w x v) : (∃ s, v = .string s ∧ s.size = n ∧ x = .t (.v (.string s))) ∨ (∃ a c, v = .slice a n c ∧ n ≤ c) := by
 unfold D6b at h
 split at h
 ·injection h with h; rw [(U3 hx).1]; exact Or.inl ⟨_, rfl, h, rfl⟩
 ·injection h with h; simp only [CA, CT] at hx; obtain ⟨a, c, rfl, hc, _⟩ := hx; subst h; exact Or.inr ⟨a, c, rfl, hc⟩
 ·injection h with h; subst h; rw [(U3 hx).1]; exact Or.inr ⟨_, _, rfl, Nat.le_refl _⟩
 ·injection h with h; subst h; rw [(U3 hx).1]; exact Or.inr ⟨_, _, rfl, Nat.zero_le _⟩
 ·injection h with h; subst h; simp only [CA] at hx; obtain ⟨a, c, rfl, hc, _⟩ := hx; exact Or.inr ⟨a, c, rfl, hc⟩
 ·simp at h

theorem D9s {t ty : TypeId} {x : AV} {v : Value} {n : Nat} {str : Bool} (hu : if str then P.underlying t = some .string else ∃ e, P.underlying t = some (.slice e)) (h : D6b x = some n) (hs : x.isStr = str) (hx : CA A φ w x v)
  (more : Array TypeId) (vs : Array Value) (hm : more[0]? = some t) (hv : vs[0]? = some v) :
  (Builtin.len_ more ty vs).run P w = .ok (.int .i64 n) w := by
 rcases D4g h hx with ⟨s, rfl, hs', rfl⟩ | ⟨a, c, rfl, _⟩
 ·simp only [AV.isStr] at hs; subst hs
  simp only [if_true] at hu
  simp [Builtin.len_, hm, hv, run_underlying hu, hs', goInt]
 ·cases str with
  | true =>
   unfold AV.isStr at hs
   split at hs
   ·have := (U3 hx).1; cases this
   ·simp at hs
  | false =>
   simp only [Bool.false_eq_true, if_false] at hu
   obtain ⟨e, hu⟩ := hu
   simp [Builtin.len_, hm, hv, run_underlying hu, goInt]

end
end Go.Sx
