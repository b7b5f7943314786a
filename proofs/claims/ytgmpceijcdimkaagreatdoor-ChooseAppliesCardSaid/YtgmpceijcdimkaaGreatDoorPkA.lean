/- Texts of mine, many in one. No statement of the seat is proved here. -/
import Derived.Test.YtgmpceijcdimkaaGreatDoorSlim
import Derived.Test.YtgmpceijcdimkaaGreatDoorShelf
import Derived.Test.YtgmpceijcdimkaaGreatDoorSxH
import Derived.Lib.Bytealg
import Derived.Lib.IndexBytes
import Derived.Shelf.Strings.OnBuilder
import Derived.Shelf.Strings.SplitCore
import Derived.Shelf.Strings.Search3
import Derived.Shelf.Strings.Count
import Derived.Lib.SplitLaws
import GoSem.Extern.BytealgCompare
import Derived.WalkKit
import Derived.Maps.OwnSet
import Derived.Maps.Views
import Derived.Shelf.Lay
set_option linter.unusedSimpArgs false
set_option linter.unusedVariables false
namespace Go.Proofs.YtgmpceijcdimkaaGreatDoor
open Go Go.Sx

theorem C12 (s : ByteArray) (i : Nat) : s[i]? = s.data.toList[i]? := by
 by_cases h : i < s.size
 ·rw [getElem?_pos s i h]
  have h2 : i < s.data.toList.length := by simpa using h
  rw [List.getElem?_eq_getElem h2]
  rfl
 ·rw [getElem?_neg s i h, List.getElem?_eq_none (by simpa using h)]

theorem A3k (s : ByteArray) : s.data.toList.length = s.size := by simp

/-- What is left of a text. -/
def Suf (s : ByteArray) (rest : List UInt8) : Prop := rest <:+ s.data.toList

theorem Suf.len {s : ByteArray} {rest : List UInt8} (h : Suf s rest) : rest.length ≤ s.size := by
 have := h.length_le; rwa [A3k] at this

theorem Suf.all (s : ByteArray) : Suf s s.data.toList := List.suffix_refl _

theorem Suf.tail {s : ByteArray} {c : UInt8} {rest : List UInt8} (h : Suf s (c :: rest)) : Suf s rest := (List.suffix_cons c rest).trans h

theorem Suf.get {s : ByteArray} {rest : List UInt8} (h : Suf s rest) (k : Nat) : s[s.size - rest.length + k]? = rest[k]? := by
 obtain ⟨pre, hp⟩ := h
 have hl : pre.length + rest.length = s.size := by rw [← A3k, ← hp]; simp
 rw [C12, ← hp, List.getElem?_append_right (by omega)]
 congr 1; omega

theorem A7n (c : UInt8) : c.toNat < 256 := UInt8.toNat_lt c

theorem F0 {α : Type} {l : List α} {i : Nat} (h : i < l.length) : ∃ s, l[i]? = some s := ⟨l[i], List.getElem?_eq_getElem h⟩

theorem A05 {α : Type} {l : List α} {i : Nat} {s : α} (h : l[i]? = some s) : l.drop i = s :: l.drop (i + 1) := by
 obtain ⟨hi, rfl⟩ := List.getElem?_eq_some_iff.1 h
 exact List.drop_eq_getElem_cons hi

abbrev Q5 (s : ByteArray) : AV := .t (.v (.string s))

/-- A text's parts. -/
def U2 (c : UInt8) : List UInt8 → List (List UInt8)
 | [] => [[]]
 | b :: l => if b = c then [] :: U2 c l else match U2 c l with
  | [] => [[b]]
  | p :: ps => (b :: p) :: ps

theorem B6h {a b : ByteArray} (h : a.data.toList = b.data.toList) : a = b := by
 cases a; cases b; simp only [Array.toList_inj] at h; rw [h]

theorem C7v (c : UInt8) : ∀ l : List UInt8, (Lib.indexByte l c < 0 → U2 c l = [l]) ∧ (0 ≤ Lib.indexByte l c → (Lib.indexByte l c).toNat < l.length ∧ U2 c l = l.take (Lib.indexByte l c).toNat :: U2 c (l.drop ((Lib.indexByte l c).toNat + 1)))
 | [] => by simp [Lib.indexByte, U2]
 | b :: l => by
  have ih := C7v c l
  have hge := Lib.indexByte_ge l c
  simp only [Lib.indexByte, U2]
  by_cases hb : b = c
  ·subst hb; simp
  ·have hb' : (b == c) = false := by simpa using hb
   simp only [hb', hb, if_false, Bool.false_eq_true]
   by_cases hi : Lib.indexByte l c = -1
   ·have h1 := ih.1 (by omega)
    simp [hi, h1]
   ·have hi' : (Lib.indexByte l c == -1) = false := by simpa using hi
    have h0 : 0 ≤ Lib.indexByte l c := by omega
    obtain ⟨h2, h3⟩ := ih.2 h0
    simp only [hi', if_false, Bool.false_eq_true]
    have e : (Lib.indexByte l c + 1).toNat = (Lib.indexByte l c).toNat + 1 := by omega
    refine ⟨fun h => by omega, fun _ => ⟨by rw [e]; simp; omega, ?_⟩⟩
    rw [e, h3]
    simp

theorem C22 (c : UInt8) : ∀ l : List UInt8, (U2 c l).length ≤ l.length + 1 ∧ ∀ p ∈ U2 c l, p.length ≤ l.length
 | [] => by simp [U2]
 | b :: l => by
  have ih := C22 c l
  simp only [U2]
  by_cases hb : b = c
  ·rw [if_pos hb]
   refine ⟨by simp; omega, fun p hp => ?_⟩
   rcases List.mem_cons.1 hp with rfl | hp
   ·simp
   ·have := ih.2 p hp; simp; omega
  ·rw [if_neg hb]
   generalize U2 c l = ps at *
   cases ps with
   | nil => simp
   | cons q ps =>
    simp only [List.length_cons] at ih ⊢
    refine ⟨by omega, fun p hp => ?_⟩
    rcases List.mem_cons.1 hp with rfl | hp
    ·have := ih.2 q (by simp); simp; omega
    ·have := ih.2 p (by simp [hp]); omega

def D6 (l : List UInt8) : ByteArray := ⟨l.toArray⟩

theorem X2 (l : List UInt8) : (D6 l).data.toList = l := rfl

theorem D35 (a l : List UInt8) : D6 a ++ D6 l = D6 (a ++ l) := by
 apply B6h
 simp [D6]

theorem E1o (a l : List UInt8) (h : a.length + l.length ≤ 9223372036854775807) : S2 .add (D6 a) (D6 l) = some (.string (D6 (a ++ l))) := by
 have e1 : (D6 a).size = a.length := rfl
 have e2 : (D6 l).size = l.length := rfl
 have em : IntKind.i64.max = 9223372036854775807 := rfl
 simp only [S2, e1, e2, em]
 rw [if_neg (by omega), D35]

theorem C9 (l : List UInt8) : (D6 l).size = l.length := rfl

theorem eqT (a b : List UInt8) : S2 .eql (D6 a) (D6 b) = some (.bool (a == b)) := by
 simp only [S2]
 congr 2
 rw [Lib.toList_data, Lib.toList_data, X2, X2]

theorem neT (a b : List UInt8) : S2 .neq (D6 a) (D6 b) = some (.bool (!(a == b))) := by
 simp only [S2]
 congr 2
 rw [Lib.toList_data, Lib.toList_data, X2, X2]

theorem E2d (l : List UInt8) (a b : Nat) : (D6 l).extract a b = D6 ((l.take b).drop a) := by
 apply B6h
 have : ((D6 l).extract a b).data.toList = (l.drop a).take (b - a) := by
  simp [ByteArray.extract, ByteArray.copySlice, D6]
 rw [this, X2, List.drop_take]

theorem E2w (l : List UInt8) (i : Nat) : (D6 l)[i]? = l[i]? := by rw [C12, X2]

/-- The world has only grown. -/
structure Grown (E : Env) (w w' : World) : Prop where
 os : w'.os = w.os
 tape : w'.tape = w.tape
 output : w'.output = w.output
 drawn : E.cnt → w.drawn ≤ w'.drawn
 size : w.heap.size ≤ w'.heap.size
 block : ∀ b, b < w.heap.size → w'.heap[b]? = w.heap[b]?

theorem Grown.refl {E : Env} (w : World) : Grown E w w := ⟨rfl, rfl, rfl, fun _ => Nat.le_refl _, Nat.le_refl _, fun _ _ => rfl⟩

theorem C7i {A : Nat → Prop} {φ : Nat → Nat} {w : World} : ∀ {vals ys : List Value}, H7 A φ w (vals.map fun x => .t (.v x)) ys → ys = vals
 | [], ys, h => by simpa [H7] using h
 | x :: l, ys, h => by
  simp only [List.map_cons, H7, CA, CT] at h
  obtain ⟨z, zs, rfl, ⟨rfl, _⟩, h⟩ := h
  rw [C7i h]

theorem D5u (vals : List Value) : B5 (vals.map fun x => .t (.v x)) = [] := by
 induction vals with
 | nil => rfl
 | cons x l ih => simp only [List.map_cons, B5, AV.ids, ih]; rfl

theorem C4s {P : Program} {E : Env} {f : FuncId} {av : List AV} {v : Value} {r : AV} (ha : B5 av = []) (he : ∀ args w, (callFunc f args).run P w = .ok (.enter f args) w) (hr : ∀ A φ w, CA A φ w r v) (hi : r.ids = [])
  (h : ∀ (A : Nat → Prop) φ w (args : Array Value), E.gi w → (∀ b, A b → b < w.heap.size) → H7 A φ w av args.toList → Calls P f args w fun e w' => e = .returned v ∧ Grown E w w') : Meets P E f av [] r [] where
 shutIn := B05 ha
 shutOut := B05 (by simp [B5, hi])
 stay := by simp [A4]
 runs := fun A φ w args gi gA alt hH hargs => by
  refine Or.inl ⟨he _ _, (h A φ w args gi alt hargs).mono ?_⟩
  rintro e w' ⟨rfl, hg⟩
  refine ⟨v, rfl, A, φ, ?_⟩
  exact {
   go := ⟨fun b hb => ⟨hb, hg.block b (alt b hb)⟩, fun b n hb => by
    have hlt : b < w.heap.size := by obtain ⟨cs, e, h1, _⟩ := hb; exact A88 h1
    exact A3i.of_heap (hg.block b hlt) hb⟩
   agree := by simp [A4]
   holds := ⟨fun id o ho => by simp [A9] at ho, fun id o ho => by simp [A9] at ho, fun i j hi => by simp [A4] at hi⟩
   fresh := by simp [A4]
   ca := hr _ _ _
   anew := fun b hb => Or.inl hb
   alt := fun b hb => Nat.lt_of_lt_of_le (alt b hb) hg.size
   old := fun b hb _ => hg.block b hb
   os := hg.os
   tape := hg.tape
   output := hg.output
   drawn := hg.drawn
   size := hg.size }

theorem D5i {P : Program} {E : Env} {f : FuncId} {vals : List Value} {v : Value} {r : AV} (he : ∀ args w, (callFunc f args).run P w = .ok (.enter f args) w) (hr : ∀ A φ w, CA A φ w r v) (hi : r.ids = [])
  (h : ∀ w, E.gi w → Calls P f vals.toArray w fun e w' => e = .returned v ∧ Grown E w w') : Meets P E f (vals.map fun x => .t (.v x)) [] r [] :=
 C4s (D5u vals) he hr hi fun A φ w args gi alt hargs => by
  have e : args = vals.toArray := by rw [← C7i hargs]
  subst e
  exact h w gi

end Go.Proofs.YtgmpceijcdimkaaGreatDoor
namespace Go.Proofs.YtgmpceijcdimkaaGreatDoor
open Go Go.Sx Go.RowKit Go.Shelf

def C78 (x : ByteArray) : List T := [.v (.string x)]

theorem C4i {w w' : World} (h : Below w.heap.size w w') (hc : E0.cnt → False) : Grown E0 w w' := ⟨h.os, h.tape, h.output, fun hh => (hc hh).elim, h.size, h.block⟩

theorem C7y : Go.Proofs.Builder.Extra Tryz.prog Tryz.laysJoin_ren where
 sizeBuilder := by kernel_rfl
 liesBuilder := by kernel_rfl
 t5 := Tryz.underlying5
 a5 := Tryz.isAgg5
 z5 := Tryz.sizeOf5
 v5 := Tryz.zeroValue5
 infoByte := by kernel_rfl
 cellsByte := by kernel_rfl
 sizeByte := by kernel_rfl
 neB5 := by decide

/-- A text of parts, with something between them. -/
def D4e (xs : List ByteArray) (sep : ByteArray) : ByteArray := D6 (Lib.join (xs.map (·.data.toList)) sep.data.toList)

theorem E1p (xs : List ByteArray) (sep : ByteArray) (h1 : xs.length ≤ 140737488355328) (h2 : (Lib.join (xs.map (·.data.toList)) sep.data.toList).length ≤ 140737488355328) :
  Meets Tryz.prog E0 B5y [.t (.sl 1 (xs.map C78)), Q5 sep] [] (Q5 (D4e xs sep)) [] := by
 refine C4s (v := .string (D4e xs sep)) rfl (enters_of Tryz.func97 (by kernel_rfl) rfl) (fun A φ w => by simp only [CA, CT]; exact ⟨trivial, rfl⟩) rfl ?_
 intro A φ w args hE alt hargs
 simp only [H7, CA, CT] at hargs
 obtain ⟨_, _, e1, ⟨a, cap, rfl, hcap, hrow⟩, _, _, rfl, ⟨rfl, _⟩, rfl⟩ := hargs
 obtain rfl : args = #[.slice a xs.length cap, .string sep] := by cases args; simp_all
 rw [List.length_map] at hcap
 by_cases hx : xs = []
 ·subst hx
  refine Calls.mono (Go.Proofs.Any.strings_Join_none Go.Proofs.Tryz.laysJoin C7y a cap sep w) ?_
  rintro e w' ⟨rfl, rfl⟩
  refine ⟨?_, Grown.refl _⟩
  congr 2
 ·rcases hrow with hrow | ⟨b, o, rfl, hA, hrow⟩
  ·exact absurd (by simpa using hrow) hx
  ·have hcells : ∀ (j : Nat) x, xs[j]? = some x → w.cell? ⟨b, o + j, none⟩ = some (.string x) := by
    intro j x hj
    have hr := hrow.get (i := j) (e := C78 x) (by rw [List.getElem?_map, hj]; rfl)
    obtain ⟨y, hy, hc⟩ := hr.2.get (i := 0) (c := .v (.string x)) rfl
    simp only [CT] at hc
    rw [Nat.mul_one, Nat.add_zero, hc.1] at hy
    exact hy
   refine Calls.mono (Go.Proofs.Any.strings_Join Go.Proofs.Tryz.laysJoin C7y b o cap xs sep w hcells (alt b hA) h1 hcap h2) ?_
   rintro e w' ⟨rfl, hb⟩
   exact ⟨rfl, C4i hb (fun h => h)⟩

theorem D09 {A : Nat → Prop} {w : World} (c : Obj) (alt : ∀ b, A b → b < w.heap.size) : Goes A (fun b => A b ∨ b = w.heap.size) w (w.alloc c) :=
 have hb : ∀ b, b < w.heap.size → (w.alloc c).heap[b]? = w.heap[b]? := fun b h => by
  simp only [World.alloc]
  rw [Array.getElem?_push_lt h, Array.getElem?_eq_getElem h]
 ⟨fun b h => ⟨Or.inl h, hb b (alt b h)⟩, fun b n h => A3i.of_heap (hb b h.lt) h⟩

theorem D3e {P : Program} {E : Env} {f : FuncId} {av : List AV} {es : List (List T)} {sz : Nat} (ha : B5 av = []) (he : ∀ args w, (callFunc f args).run P w = .ok (.enter f args) w)
  (h : ∀ (A : Nat → Prop) φ w (args : Array Value), E.gi w → (∀ b, A b → b < w.heap.size) → H7 A φ w av args.toList → Calls P f args w fun e w' => ∃ c N, e = .returned (.slice (some ⟨w.heap.size, 0, none⟩) es.length N) ∧ es.length ≤ N ∧ w' = w.alloc c ∧ E5 (fun b => A b ∨ b = w.heap.size) (w.alloc c) sz w.heap.size 0 es) : Meets P E f av [] (.t (.sl sz es)) [] where
 shutIn := B05 ha
 shutOut := B05 (by simp [B5, AV.ids])
 stay := by simp [A4]
 runs := fun A φ w args gi gA alt hH hargs => by
  refine Or.inl ⟨he _ _, (h A φ w args gi alt hargs).mono ?_⟩
  rintro e w' ⟨c, N, rfl, hN, rfl, hr⟩
  have hb : ∀ b, b < w.heap.size → (w.alloc c).heap[b]? = w.heap[b]? := fun b h => by
   simp only [World.alloc]
   rw [Array.getElem?_push_lt h, Array.getElem?_eq_getElem h]
  have hsz : (w.alloc c).heap.size = w.heap.size + 1 := by show (w.heap.push c).size = _; rw [Array.size_push]
  refine ⟨_, rfl, fun b => A b ∨ b = w.heap.size, φ, ?_⟩
  exact {
   go := D09 c alt
   agree := by simp [A4]
   holds := ⟨fun id o ho => by simp [A9] at ho, fun id o ho => by simp [A9] at ho, fun i j hi => by simp [A4] at hi⟩
   fresh := by simp [A4]
   ca := by
    simp only [CA, CT]
    exact ⟨_, _, rfl, hN, Or.inr ⟨_, _, rfl, Or.inr rfl, hr⟩⟩
   anew := fun b hb => hb.elim Or.inl fun h => Or.inr (by omega)
   alt := fun b hb => by
    rw [hsz]
    rcases hb with h | h
    ·have := alt b h; omega
    ·omega
   old := fun b hlt _ => hb b hlt
   os := rfl
   tape := rfl
   output := rfl
   drawn := fun _ => Nat.le_refl _
   size := by rw [hsz]; omega }

/-- A point. -/
abbrev B8q : ByteArray := bs [46]

/-- A text's parts between points. -/
def A10 (s : ByteArray) : List ByteArray := Lib.splitB B8q 0 (Lib.countB s B8q) s

theorem D8j {A : Nat → Prop} {w : World} {b : Nat} : ∀ (xs : List ByteArray) (o : Nat), (∀ (j : Nat) x, xs[j]? = some x → w.cell? ⟨b, o + j, none⟩ = some (.string x)) → E5 A w 1 b o (xs.map C78)
 | [], _, _ => by simp [E5]
 | x :: xs, o, h => by
  simp only [List.map_cons, E5, C78, D0, CT, and_true, List.length_cons, List.length_nil]
  refine ⟨⟨trivial, .string x, h 0 x rfl, rfl, rfl⟩, D8j xs (o + 1) fun j y hj => ?_⟩
  have := h (j + 1) y (by simpa using hj)
  rwa [show o + (j + 1) = o + 1 + j by omega] at this

theorem D3u (w : World) (vs : Array Value) (e : TypeId) (j : Nat) (x : Value) (h : vs[j]? = some x) : (w.alloc (.cells vs e)).cell? ⟨w.heap.size, 0 + j, none⟩ = some x := by
 have hh : (w.alloc (.cells vs e)).heap[w.heap.size]? = some (.cells vs e) := by
  show (w.heap.push _)[w.heap.size]? = _
  rw [Array.getElem?_push_size]
 rw [Nat.zero_add]
 simp only [World.cell?, hh]
 exact h

theorem B7m (s : ByteArray) : (A10 s).length = Lib.countB s B8q + 1 := Lib.splitB_all B8q (by decide) 0 _ s rfl

theorem B85 (s : ByteArray) (hs : s.size < 4294967281) : Meets Tryz.prog E0 A9m [Q5 s, Q5 B8q, I 0, I (-1)] [] (.t (.sl 1 ((A10 s).map C78))) [] := by
 have L := Go.Proofs.Tryz.laysGenSplit
 refine D3e rfl (enters_of Tryz.func118 (by kernel_rfl) rfl) ?_
 intro A φ w args hE alt hargs
 simp only [H7, CA, CT] at hargs
 obtain ⟨_, _, e1, ⟨rfl, _⟩, _, _, rfl, ⟨rfl, _⟩, _, _, rfl, ⟨rfl, _⟩, _, _, rfl, ⟨rfl, _⟩, rfl⟩ := hargs
 obtain rfl : args = #[.string s, .string B8q, .int .i64 0, .int .i64 (-1)] := by cases args; simp_all
 have hle := Lib.countB_le B8q (by decide) s.size s (Nat.le_refl _)
 have hk := Go.Proofs.Any.strings_genSplit_core L (by kernel_rfl) s B8q 0 (-1) (Lib.countB s B8q + 1) w hs (by decide) (by decide)
  (fun x c hx => by
   refine Calls.mono (Go.Proofs.Any.strings_Index_one { L with } x 46 _) ?_
   rintro e w' ⟨rfl, rfl⟩
   refine ⟨?_, rfl⟩
   rw [Lib.indexB, show B8q.data.toList = [46] from rfl, Lib.index_one])
  (by
   refine Calls.mono (Go.Proofs.Any.strings_Count_one { L with } s 46 w) ?_
   rintro e w' ⟨rfl, rfl⟩
   refine ⟨?_, rfl⟩
   rw [Lib.countB, show B8q.data.toList = [46] from rfl, Lib.count_one]; rfl)
  (by decide) (by decide) (by omega)
 refine Calls.mono hk ?_
 rintro e w' ⟨rfl, rfl⟩
 have el : (Lib.splitB B8q 0 (Lib.countB s B8q + 1 - 1) s) = A10 s := rfl
 rw [el]
 have e2 := B7m s
 refine ⟨_, _, by rw [List.length_map], by rw [List.length_map]; omega, rfl, ?_⟩
 refine D8j _ _ fun j x hj => ?_
 have hjl : j < (A10 s).length := by
  rcases Nat.lt_or_ge j (A10 s).length with h | h
  ·exact h
  ·rw [List.getElem?_eq_none h] at hj; cases hj
 rw [← e2, Lib.cellsOf_full]
 exact D3u w _ _ _ _ (by simp [hj])

theorem C2v : ∀ (k : Nat) (l : List UInt8), l.length ≤ k → Lib.splitK [46] 0 (Lib.count l [46]) l = U2 46 l
 | k, l, hk => by
  have hi := Lib.index_one l 46
  have hp := C7v 46 l
  have hge := Lib.indexByte_ge l 46
  by_cases hm : Lib.indexByte l 46 = -1
  ·rw [Lib.count_miss (by rw [hi, hm]), hp.1 (by omega)]; rfl
  ·obtain ⟨j, hj⟩ : ∃ j : Nat, Lib.indexByte l 46 = j := ⟨(Lib.indexByte l 46).toNat, by omega⟩
   obtain ⟨h1, h2⟩ := hp.2 (by omega)
   have ej : (Lib.indexByte l 46).toNat = j := by omega
   rw [ej] at h1 h2
   rw [Lib.count_hit (by simp) (hi.trans hj), h2, Nat.add_comm, Lib.splitK, hi]
   rw [if_neg (by simpa using hm), ej]
   cases k with
   | zero => omega
   | succ k =>
    simp only [List.length_cons, List.length_nil, Nat.zero_add, Nat.add_zero]
    rw [C2v k (l.drop (j + 1)) (by simp; omega)]

theorem B2x (s : ByteArray) : (A10 s).map (·.data.toList) = U2 46 s.data.toList := by
 unfold A10
 rw [Lib.splitB_data]
 exact C2v _ _ (Nat.le_refl _)

theorem C3j (s : ByteArray) (hs : s.size < 4294967281) : Meets Tryz.prog E0 A7a [Q5 s, Q5 B8q] [] (.t (.sl 1 ((A10 s).map C78))) [] := by
 refine X6 C3s ?_
 simp only [go_sem, A7e]
 refine A6 (B85 s hs) ?_
 simp only [go_sem, A7e]
 refine wE ?_; rfl

end Go.Proofs.YtgmpceijcdimkaaGreatDoor
namespace Go.Proofs.YtgmpceijcdimkaaGreatDoor
open Go Go.Sx

section StableSort
variable {α : Type}

/-- An item put into a list that is read from its end. -/
def A3l (lt : α → α → Bool) (x : α) : List α → List α
 | [] => [x]
 | y :: r => if lt x y then y :: A3l lt x r else x :: y :: r

/-- An item put into a list, behind all that aren't above it. -/
def A9o (lt : α → α → Bool) (x : α) (l : List α) : List α := (A3l lt x l.reverse).reverse

/-- Sorted by putting in one by one. -/
def F7 (lt : α → α → Bool) (l : List α) : List α := l.foldl (fun s x => A9o lt x s) []

theorem D2f (lt : α → α → Bool) (x : α) : A9o lt x [] = [x] := rfl
theorem C1b (lt : α → α → Bool) (x y : α) (s : List α) : A9o lt x (s ++ [y]) = if lt x y then A9o lt x s ++ [y] else s ++ [y, x] := by
 unfold A9o
 rw [List.reverse_append, List.reverse_singleton, List.singleton_append, A3l]
 split
 ·rw [List.reverse_cons]
 ·simp
theorem B2l (lt : α → α → Bool) : F7 lt [] = [] := rfl
theorem A20 (lt : α → α → Bool) (l : List α) (x : α) : F7 lt (l ++ [x]) = A9o lt x (F7 lt l) := by
 unfold F7; rw [List.foldl_append]; rfl
theorem C4m (lt : α → α → Bool) (x : α) : ∀ l, (A3l lt x l).length = l.length + 1
 | [] => rfl
 | y :: r => by
  unfold A3l
  split
  ·simp [C4m lt x r]
  ·rfl
theorem D8z (lt : α → α → Bool) (x : α) (l : List α) : (A9o lt x l).length = l.length + 1 := by
 unfold A9o; rw [List.length_reverse, C4m, List.length_reverse]

theorem A3y {P : List α → Prop} (h0 : P []) (h1 : ∀ l x, P l → P (l ++ [x])) (l : List α) : P l := by
 have : ∀ r : List α, P r.reverse := by
  intro r
  induction r with
  | nil => exact h0
  | cons x r ih => rw [List.reverse_cons]; exact h1 _ _ ih
 have h := this l.reverse
 rwa [List.reverse_reverse] at h

theorem O6 (lt : α → α → Bool) (l : List α) : (F7 lt l).length = l.length := by
 induction l using A3y with
 | h0 => rfl
 | h1 l x ih => rw [A20, D8z, ih]; simp

theorem C5q (lt : α → α → Bool) (x y : α) : ∀ l, y ∈ A3l lt x l ↔ y = x ∨ y ∈ l
 | [] => by simp [A3l]
 | z :: r => by
  unfold A3l
  split
  ·simp only [List.mem_cons, C5q lt x y r]
   constructor
   ·rintro (h | h | h)
    ·exact .inr (.inl h)
    ·exact .inl h
    ·exact .inr (.inr h)
   ·rintro (h | h | h)
    ·exact .inr (.inl h)
    ·exact .inl h
    ·exact .inr (.inr h)
  ·simp
theorem D90 (lt : α → α → Bool) (x y : α) (l : List α) : y ∈ A9o lt x l ↔ y = x ∨ y ∈ l := by
 unfold A9o; rw [List.mem_reverse, C5q, List.mem_reverse]
theorem Y1 (lt : α → α → Bool) (y : α) (l : List α) : y ∈ F7 lt l ↔ y ∈ l := by
 induction l using A3y with
 | h0 => simp [F7]
 | h1 l x ih => rw [A20, D90, ih]; simp [or_comm]

/-- Below, so that it orders. -/
structure Below3 (lt : α → α → Bool) : Prop where
 asym : ∀ a b, lt a b = true → lt b a = false
 tr : ∀ a b c, lt b a = false → lt c b = false → lt c a = false

def Srt (lt : α → α → Bool) (l : List α) : Prop := l.Pairwise fun a b => lt b a = false

theorem Below3.lt_of {lt : α → α → Bool} (h : Below3 lt) {a b c : α} (h1 : lt b a = false) (h2 : lt b c = true) : lt a c = true := by
 cases h3 : lt a c
 ·have := h.tr c a b h3 h1
  rw [this] at h2; cases h2
 ·rfl
theorem Below3.lt_of2 {lt : α → α → Bool} (h : Below3 lt) {a b c : α} (h1 : lt a b = true) (h2 : lt c b = false) : lt a c = true := by
 cases h3 : lt a c
 ·have := h.tr b c a h2 h3
  rw [this] at h1; cases h1
 ·rfl

/-- An item's place in what is sorted. -/
theorem B6f {lt : α → α → Bool} (h : Below3 lt) (x : α) : ∀ {l : List α}, Srt lt l → ∃ a b, l = a ++ b ∧ (∀ y ∈ a, lt x y = false) ∧ ∀ y ∈ b, lt x y = true
 | [], _ => ⟨[], [], rfl, by simp, by simp⟩
 | z :: l, hs => by
  have hs' := List.pairwise_cons.1 hs
  cases hz : lt x z
  ·obtain ⟨a, b, rfl, h1, h2⟩ := B6f h x hs'.2
   refine ⟨z :: a, b, rfl, ?_, h2⟩
   intro y hy
   rcases List.mem_cons.1 hy with rfl | hy
   ·exact hz
   ·exact h1 y hy
  ·refine ⟨[], z :: l, rfl, by simp, ?_⟩
   intro y hy
   rcases List.mem_cons.1 hy with rfl | hy
   ·exact hz
   ·exact h.lt_of2 hz (hs'.1 y hy)

theorem B90 {lt : α → α → Bool} {x : α} {a : List α} (ha : ∀ y ∈ a, lt x y = false) : ∀ {b : List α}, (∀ y ∈ b, lt x y = true) → A3l lt x (b ++ a) = b ++ x :: a
 | [], _ => by
  cases a with
  | nil => rfl
  | cons y r => simp [A3l, ha y (by simp)]
 | y :: b, hb => by
  simp only [List.cons_append, A3l, hb y (by simp), if_true]
  rw [B90 ha fun z hz => hb z (by simp [hz])]
theorem B89 {lt : α → α → Bool} {x : α} {a b : List α} (ha : ∀ y ∈ a, lt x y = false) (hb : ∀ y ∈ b, lt x y = true) : A9o lt x (a ++ b) = a ++ x :: b := by
 unfold A9o
 rw [List.reverse_append, B90 (by simpa using ha) (by simpa using hb)]
 simp

theorem D84 {lt : α → α → Bool} (h : Below3 lt) (x : α) {l : List α} (hs : Srt lt l) : Srt lt (A9o lt x l) := by
 obtain ⟨a, b, rfl, h1, h2⟩ := B6f h x hs
 rw [B89 h1 h2]
 unfold Srt at hs ⊢
 rw [List.pairwise_append] at hs ⊢
 obtain ⟨p1, p2, p3⟩ := hs
 refine ⟨p1, List.pairwise_cons.2 ⟨fun y hy => h.asym _ _ (h2 y hy), p2⟩, fun y hy z hz => ?_⟩
 rcases List.mem_cons.1 hz with rfl | hz
 ·exact h1 y hy
 ·exact p3 y hy z hz

theorem A3v {lt : α → α → Bool} (h : Below3 lt) (l : List α) : Srt lt (F7 lt l) := by
 induction l using A3y with
 | h0 => exact List.Pairwise.nil
 | h1 l x ih => rw [A20]; exact D84 h x ih

/-- Two sorted lists made one; of those that are as great the first list's stand ahead. -/
def mrg (lt : α → α → Bool) : List α → List α → List α
 | [], b => b
 | x :: a, [] => x :: a
 | x :: a, y :: b => if lt y x then y :: mrg lt (x :: a) b else x :: mrg lt a (y :: b)
termination_by a b => a.length + b.length

theorem V6 (lt : α → α → Bool) (b : List α) : mrg lt [] b = b := by rw [mrg]
theorem V9 (lt : α → α → Bool) (a : List α) : mrg lt a [] = a := by cases a <;> simp [mrg]
theorem A9e (lt : α → α → Bool) (x y : α) (a b : List α) : mrg lt (x :: a) (y :: b) = if lt y x then y :: mrg lt (x :: a) b else x :: mrg lt a (y :: b) := by rw [mrg]

theorem B0a (lt : α → α → Bool) {a2 b2 : List α} : ∀ {a1 b1 : List α}, (∀ x ∈ a1, ∀ y ∈ b2, lt y x = false) → (∀ x ∈ a2, ∀ y ∈ b1, lt y x = true) → mrg lt (a1 ++ a2) (b1 ++ b2) = mrg lt a1 b1 ++ mrg lt a2 b2
 | [], [], _, _ => by simp [V6]
 | [], y :: b1, h1, h2 => by
  have ih := B0a lt (a1 := []) (b1 := b1) (a2 := a2) (b2 := b2) (by simp) (fun x hx z hz => h2 x hx z (by simp [hz]))
  simp only [List.nil_append, V6] at ih ⊢
  cases a2 with
  | nil => simp [V6]
  | cons x a2 =>
   simp only [List.cons_append, A9e, h2 x (by simp) y (by simp), if_true]
   rw [ih]
 | x :: a1, [], h1, h2 => by
  have ih := B0a lt (a1 := a1) (b1 := []) (a2 := a2) (b2 := b2) (fun z hz => h1 z (by simp [hz])) (by simp)
  simp only [List.nil_append, V9] at ih ⊢
  cases b2 with
  | nil => simp [V9]
  | cons y b2 =>
   simp only [List.cons_append, A9e, h1 x (by simp) y (by simp), Bool.false_eq_true, if_false]
   rw [ih]
 | x :: a1, y :: b1, h1, h2 => by
  simp only [List.cons_append, A9e]
  split
  ·rw [List.cons_append, ← B0a lt (a1 := x :: a1) (b1 := b1) h1 (fun z hz w hw => h2 z hz w (by simp [hw]))]; rfl
  ·rw [List.cons_append, ← B0a lt (a1 := a1) (b1 := y :: b1) (fun z hz => h1 z (by simp [hz])) h2]; rfl
termination_by a1 b1 => a1.length + b1.length

theorem C0o (lt : α → α → Bool) : ∀ (a b : List α), (mrg lt a b).length = a.length + b.length
 | [], b => by simp [V6]
 | x :: a, [] => by simp [V9]
 | x :: a, y :: b => by
  rw [A9e]
  split
  ·rw [List.length_cons, C0o lt (x :: a) b]; simp; omega
  ·rw [List.length_cons, C0o lt a (y :: b)]; simp; omega
termination_by a b => a.length + b.length
theorem C3t (lt : α → α → Bool) (z : α) : ∀ (a b : List α), z ∈ mrg lt a b ↔ z ∈ a ∨ z ∈ b
 | [], b => by simp [V6]
 | x :: a, [] => by simp [V9]
 | x :: a, y :: b => by
  rw [A9e]
  split
  ·rw [List.mem_cons, C3t lt z (x :: a) b]; simp; grind
  ·rw [List.mem_cons, C3t lt z a (y :: b)]; simp; grind
termination_by a b => a.length + b.length

theorem E02 {lt : α → α → Bool} (h : Below3 lt) (x : α) {s t : List α} (hs : Srt lt s) (ht : Srt lt t) : mrg lt s (A9o lt x t) = A9o lt x (mrg lt s t) := by
 obtain ⟨s1, s2, rfl, h1, h2⟩ := B6f h x hs
 obtain ⟨t1, t2, rfl, g1, g2⟩ := B6f h x ht
 have c1 : ∀ a ∈ s1, ∀ b ∈ t2, lt b a = false := fun a ha b hb => h.asym _ _ (h.lt_of (h1 a ha) (g2 b hb))
 have c2 : ∀ a ∈ s2, ∀ b ∈ t1, lt b a = true := fun a ha b hb => h.lt_of (g1 b hb) (h2 a ha)
 rw [B89 g1 g2, B0a lt c1 c2, B89]
 ·rw [show t1 ++ x :: t2 = (t1 ++ [x]) ++ t2 by simp, B0a lt (a1 := s1) (b1 := t1 ++ [x]) c1]
  ·have : mrg lt s1 (t1 ++ [x]) = mrg lt s1 t1 ++ [x] := by
    have := B0a lt (a1 := s1) (a2 := []) (b1 := t1) (b2 := [x]) (fun a ha b hb => by simp at hb; subst hb; exact h1 a ha) (by simp)
    rw [List.append_nil, V6] at this
    exact this
   rw [this]; simp
  ·intro a ha b hb
   rcases List.mem_append.1 hb with hb | hb
   ·exact c2 a ha b hb
   ·simp at hb; subst hb; exact h2 a ha
 ·intro y hy
  rcases (C3t lt y s1 t1).1 hy with hy | hy
  ·exact h1 y hy
  ·exact g1 y hy
 ·intro y hy
  rcases (C3t lt y s2 t2).1 hy with hy | hy
  ·exact h2 y hy
  ·exact g2 y hy

theorem B9m {lt : α → α → Bool} (h : Below3 lt) (a b : List α) : mrg lt (F7 lt a) (F7 lt b) = F7 lt (a ++ b) := by
 induction b using A3y with
 | h0 => rw [B2l, V9, List.append_nil]
 | h1 b x ih => rw [A20, E02 h x (A3v h a) (A3v h b), ih, ← List.append_assoc, A20]

/-- Sorted piece by piece. -/
def chk (lt : α → α → Bool) (s : Nat) (l : List α) : List α := if h : s = 0 ∨ l.length ≤ s then F7 lt l else F7 lt (l.take s) ++ chk lt s (l.drop s)
termination_by l.length
decreasing_by simp at h ⊢; omega

theorem A53 (lt : α → α → Bool) {s : Nat} {l : List α} (h : l.length ≤ s) : chk lt s l = F7 lt l := by rw [chk, dif_pos (.inr h)]
theorem B18 (lt : α → α → Bool) {s : Nat} {l : List α} (h0 : 0 < s) (h : s ≤ l.length) : chk lt s l = F7 lt (l.take s) ++ chk lt s (l.drop s) := by
 by_cases hl : l.length = s
 ·rw [A53 lt (by omega), List.take_of_length_le (by omega), List.drop_of_length_le (by omega), A53 lt (by simp), B2l, List.append_nil]
 ·rw [chk, dif_neg (by omega)]
theorem C8p (lt : α → α → Bool) (s : Nat) (l : List α) : (chk lt s l).length = l.length := by
 rw [chk]
 split
 ·exact O6 lt l
 ·rename_i h
  rw [List.length_append, O6, C8p lt s (l.drop s)]; simp; omega
termination_by l.length
decreasing_by simp; omega

/-- Two lists cut where the second one's beginning is below what is cut off the first. -/
theorem C9x {lt : α → α → Bool} (h : Below3 lt) {a1 a2 b1 b2 : List α} (ha : Srt lt (a1 ++ a2)) (hb : Srt lt (b1 ++ b2)) (h1 : ∀ x y, a1.getLast? = some x → b2.head? = some y → lt y x = false) (h2 : ∀ x y, a2.head? = some x → b1.getLast? = some y → lt y x = true) :
  mrg lt (a1 ++ a2) (b1 ++ b2) = mrg lt a1 b1 ++ mrg lt a2 b2 := by
 unfold Srt at ha hb
 have last : ∀ {l1 l2 : List α}, (l1 ++ l2).Pairwise (fun a b => lt b a = false) → ∀ x ∈ l1, ∃ z, l1.getLast? = some z ∧ lt z x = false := by
  intro l1 l2 hp x hx
  have hp1 := (List.pairwise_append.1 hp).1
  have hne : l1 ≠ [] := fun e => by rw [e] at hx; cases hx
  refine ⟨l1.getLast hne, List.getLast?_eq_some_getLast hne, ?_⟩
  have hd := List.dropLast_concat_getLast hne
  rw [← hd] at hx hp1
  rcases List.mem_append.1 hx with hx | hx
  ·exact (List.pairwise_append.1 hp1).2.2 x hx _ (by simp)
  ·simp at hx; rw [hx]
   cases hb : lt (l1.getLast hne) (l1.getLast hne)
   ·rfl
   ·rw [h.asym _ _ hb] at hb; cases hb
 have head : ∀ {l1 l2 : List α}, (l1 ++ l2).Pairwise (fun a b => lt b a = false) → ∀ x ∈ l2, ∃ z, l2.head? = some z ∧ lt x z = false := by
  intro l1 l2 hp x hx
  have hp1 := (List.pairwise_append.1 hp).2.1
  cases l2 with
  | nil => cases hx
  | cons z l2 =>
   refine ⟨z, rfl, ?_⟩
   rcases List.mem_cons.1 hx with rfl | hx
   ·cases hb : lt x x
    ·rfl
    ·rw [h.asym _ _ hb] at hb; cases hb
   ·exact (List.pairwise_cons.1 hp1).1 x hx
 refine B0a lt (fun x hx y hy => ?_) (fun x hx y hy => ?_)
 ·obtain ⟨z, hz, hzx⟩ := last ha x hx
  obtain ⟨w, hw, hyw⟩ := head hb y hy
  exact h.tr _ _ _ hzx (h.tr _ _ _ (h1 z w hz hw) hyw)
 ·obtain ⟨z, hz, hxz⟩ := head ha x hx
  obtain ⟨w, hw, hwy⟩ := last hb y hy
  exact h.lt_of2 (h.lt_of hwy (h2 z w hz hw)) hxz
end StableSort

/-- Two neighbours change places. -/
theorem B6c {α : Type} (p : List α) (y x : α) (r : List α) {n m : Nat} (hn : n = p.length) (hm : m = n + 1) : (p ++ y :: x :: r)[n]? = some y ∧ (p ++ y :: x :: r)[m]? = some x ∧ ((p ++ y :: x :: r).set m y)[n]? = some y ∧ ((p ++ y :: x :: r).set m y).set n x = p ++ x :: y :: r ∧
  ((p ++ y :: x :: r).set n x)[m]? = some x ∧ ((p ++ y :: x :: r).set n x).set m y = p ++ x :: y :: r := by
 subst hm
 subst hn
 have e1 : p ++ y :: x :: r = (p ++ [y]) ++ x :: r := by simp
 have s1 : (p ++ y :: x :: r).set (p.length + 1) y = p ++ y :: y :: r := by
  rw [e1, show p.length + 1 = (p ++ [y]).length by simp, List.set_append_right _ _ (Nat.le_refl _), Nat.sub_self, List.set_cons_zero]; simp
 have s2 : (p ++ y :: x :: r).set p.length x = p ++ x :: x :: r := by
  rw [List.set_append_right _ _ (Nat.le_refl _), Nat.sub_self, List.set_cons_zero]
 refine ⟨?_, ?_, ?_, ?_, ?_, ?_⟩
 ·rw [List.getElem?_append_right (Nat.le_refl _), Nat.sub_self]; rfl
 ·rw [e1, show p.length + 1 = (p ++ [y]).length by simp, List.getElem?_append_right (Nat.le_refl _), Nat.sub_self]; rfl
 ·rw [s1, List.getElem?_append_right (Nat.le_refl _), Nat.sub_self]; rfl
 ·rw [s1, List.set_append_right _ _ (Nat.le_refl _), Nat.sub_self, List.set_cons_zero]
 ·rw [s2, show p ++ x :: x :: r = (p ++ [x]) ++ x :: r by simp, show p.length + 1 = (p ++ [x]).length by simp, List.getElem?_append_right (Nat.le_refl _), Nat.sub_self]; rfl
 ·rw [s2, show p ++ x :: x :: r = (p ++ [x]) ++ x :: r by simp, show p.length + 1 = (p ++ [x]).length by simp, List.set_append_right _ _ (Nat.le_refl _), Nat.sub_self, List.set_cons_zero]; simp

theorem B0f {α : Type} (l : List α) : l = [] ∨ ∃ i b, l = i ++ [b] := by
 induction l using A3y with
 | h0 => exact .inl rfl
 | h1 l x _ => exact .inr ⟨l, x, rfl⟩

theorem A1c {α : Type} {l : List α} {n : Nat} (h : n ≤ l.length) : ∃ a b, l = a ++ b ∧ a.length = n := ⟨l.take n, l.drop n, (List.take_append_drop n l).symm, by rw [List.length_take]; omega⟩

theorem C7u {α : Type} {l : List α} {n : Nat} (h : n < l.length) : ∃ a x b, l = a ++ x :: b ∧ a.length = n := by
 obtain ⟨a, b, rfl, h1⟩ := A1c (Nat.le_of_lt h)
 cases b with
 | nil => simp at h; omega
 | cons x b => exact ⟨a, x, b, rfl, h1⟩

theorem C0a {α : Type} {lt : α → α → Bool} (h : Below3 lt) (x : α) {b1 b2 : List α} (hb : Srt lt (b1 ++ b2)) (h1 : ∀ y, b1.getLast? = some y → lt y x = true) (h2 : ∀ y, b2.head? = some y → lt y x = false) : mrg lt [x] (b1 ++ b2) = b1 ++ x :: b2 := by
 have := C9x (a1 := []) (a2 := [x]) h (List.pairwise_singleton _ _) hb (by simp) (fun a y ha hy => by simp at ha; subst ha; exact h1 y hy)
 rw [List.nil_append, V6] at this
 rw [this]
 congr 1
 cases b2 with
 | nil => rw [V9]
 | cons y b2 => rw [A9e, h2 y rfl, if_neg (by decide), V6]

theorem B7f {α : Type} {lt : α → α → Bool} (h : Below3 lt) (y : α) {a1 a2 : List α} (ha : Srt lt (a1 ++ a2)) (h1 : ∀ x, a1.getLast? = some x → lt y x = false) (h2 : ∀ x, a2.head? = some x → lt y x = true) : mrg lt (a1 ++ a2) [y] = a1 ++ y :: a2 := by
 have := C9x (b1 := []) (b2 := [y]) h ha (List.pairwise_singleton _ _) (fun x z hx hz => by simp at hz; subst hz; exact h1 x hx) (by simp)
 rw [List.nil_append, V9] at this
 rw [this]
 congr 1
 cases a2 with
 | nil => rw [V6]
 | cons x a2 => rw [A9e, h2 x rfl, if_pos rfl, V9]

theorem C7l {α : Type} {p a b q : List α} {k n : Nat} {y : α} (h : b[k]? = some y) (hn : n = p.length + a.length + k) : (p ++ a ++ b ++ q)[n]? = some y := by
 subst hn
 have hk := (List.getElem?_eq_some_iff.1 h).1
 rw [List.getElem?_append_left (by simp; omega), List.getElem?_append_right (by simp), show p.length + a.length + k - (p ++ a).length = k by simp, h]
theorem C7k {α : Type} {p a b q : List α} {k n : Nat} {y : α} (h : a[k]? = some y) (hn : n = p.length + k) : (p ++ a ++ b ++ q)[n]? = some y := by
 subst hn
 have hk := (List.getElem?_eq_some_iff.1 h).1
 rw [List.append_assoc, List.getElem?_append_left (by simp; omega), List.getElem?_append_right (by simp), show p.length + k - p.length = k by omega, h]

theorem B9s {α : Type} (lt : α → α → Bool) {a b : List α} (h : a = [] ∨ b = []) : mrg lt a b = a ++ b := by
 rcases h with rfl | rfl
 ·rw [V6]; rfl
 ·rw [V9, List.append_nil]

theorem B28 {α : Type} {l : List α} {x : α} (h : l.getLast? = some x) : 0 < l.length ∧ l[l.length - 1]? = some x := by
 rw [List.getLast?_eq_getElem?] at h
 exact ⟨by have := (List.getElem?_eq_some_iff.1 h).1; omega, h⟩
theorem B2k {α : Type} {l : List α} {x : α} (h : l.head? = some x) : 0 < l.length ∧ l[0]? = some x := by
 cases l with
 | nil => cases h
 | cons y l => exact ⟨by simp, h⟩

/-- Where the search ends, both lists may be cut. -/
theorem D4f {α : Type} {lt : α → α → Bool} (h : Below3 lt) {a1 a2 b1 b2 : List α} {lo hi m : Nat} (ha : Srt lt (a1 ++ a2)) (hb : Srt lt (b1 ++ b2)) (hm : a1.length + b1.length = m) (hlo : lo = 0 ∨ m = lo + (b1.length + b2.length)) (hhi : hi = a1.length + a2.length ∨ hi = m)
  (h1 : a1.length = lo ∨ ∃ y z, (a1 ++ a2)[a1.length - 1]? = some z ∧ (b1 ++ b2)[m - a1.length]? = some y ∧ lt y z = false) (h2 : a1.length = hi ∨ ∃ y z, (a1 ++ a2)[a1.length]? = some z ∧ (b1 ++ b2)[m - 1 - a1.length]? = some y ∧ lt y z = true) :
  mrg lt (a1 ++ a2) (b1 ++ b2) = mrg lt a1 b1 ++ mrg lt a2 b2 := by
 refine C9x h ha hb (fun x y hx hy => ?_) (fun x y hx hy => ?_)
 ·obtain ⟨l1, hx⟩ := B28 hx
  obtain ⟨l2, hy⟩ := B2k hy
  rcases h1 with h1 | ⟨y', x', g1, g2, g3⟩
  ·rcases hlo with hlo | hlo <;> omega
  ·rw [List.getElem?_append_left (by omega), hx] at g1
   rw [show m - a1.length = b1.length by omega, List.getElem?_append_right (Nat.le_refl _), Nat.sub_self, hy] at g2
   injection g1 with g1; injection g2 with g2
   rw [g1, g2]; exact g3
 ·obtain ⟨l1, hx⟩ := B2k hx
  obtain ⟨l2, hy⟩ := B28 hy
  rcases h2 with h2 | ⟨y', x', g1, g2, g3⟩
  ·rcases hhi with hhi | hhi <;> omega
  ·rw [List.getElem?_append_right (Nat.le_refl _), Nat.sub_self, hx] at g1
   rw [show m - 1 - a1.length = b1.length - 1 by omega, List.getElem?_append_left (by omega), hy] at g2
   injection g1 with g1; injection g2 with g2
   rw [g1, g2]; exact g3

theorem A6r {α : Type} {l : List α} {k : Nat} (h : k < l.length) : ∃ x, l[k]? = some x ∧ x ∈ l := ⟨l[k], List.getElem?_eq_getElem h, List.getElem_mem h⟩

theorem C6d {x y z : Nat} (h : x = y + z) (hb : x ≤ 9007199254740992) : IntKind.i64.wrap ((x : Int) - (y : Int)) = (z : Int) := by
 rw [A5 (by omega) (by omega)]; omega
theorem E11 {x z : Nat} (h : x = z + 1) (hb : x ≤ 9007199254740992) : IntKind.i64.wrap ((x : Int) - 1) = (z : Int) := by
 rw [A5 (by omega) (by omega)]; omega
theorem C6x {x y z : Nat} (h : x + y = z) (hb : z ≤ 9007199254740992) : IntKind.i64.wrap ((x : Int) + (y : Int)) = (z : Int) := by
 rw [A5 (by omega) (by omega)]; omega
theorem E0y {x z : Nat} (h : x + 1 = z) (hb : z ≤ 9007199254740992) : IntKind.i64.wrap ((x : Int) + 1) = (z : Int) := by
 rw [A5 (by omega) (by omega)]; omega

/-- A fact that is kept from being split. -/
def Hid (p : Prop) : Prop := p

theorem sy1 {lo k h bl : Nat} (h1 : lo ≤ k) (h2 : k < h) (h3 : h ≤ lo + bl) : h - 1 - k < bl := by omega
theorem sy2 {P s t : Nat} : (P + s + (P + t)) / 2 = P + (s + t) / 2 := by omega
theorem sy3 {s t : Nat} (h : s < t) : s ≤ (s + t) / 2 ∧ (s + t) / 2 < t := by omega
theorem sy4 {P h M Z k : Nat} (hZ : P + h + M = Z + 1) (hk : k < h) : Z = P + k + (M + (h - 1 - k)) := by omega
theorem sy5 {P M al s t : Nat} (h1 : s < t) (h2 : t ≤ al) (h3 : P + al = M) (h4 : M ≤ 281474976710656) : P + s + (P + t) ≤ 562949953421312 := by omega
theorem sy6 {M N bl L j : Nat} (h1 : j < bl) (h2 : M + bl = N) (h3 : N ≤ L) : ((M + j : Nat) : Int) < (L : Int) := by omega
theorem sy7 {h k : Nat} (hk : k < h) : h - (k + 1) = h - 1 - k := by omega
theorem sy8 {lo s h bl : Nat} (h1 : lo ≤ s) (h3 : h ≤ lo + bl) : h - s ≤ bl := by omega
theorem sy9 {P h M s b1 : Nat} (h1 : b1 = h - s) (h2 : s ≤ h) : P + h + M = P + s + (M + b1) := by omega
theorem D0t {α : Type} (p a1 a2 b1 b2 q : List α) : (p ++ (a1 ++ a2) ++ (b1 ++ b2) ++ q).length = (p ++ a1 ++ b1 ++ (a2 ++ b2 ++ q)).length := by simp; omega
theorem C8b {α : Type} (lt : α → α → Bool) (p a1 a2 b1 b2 q : List α) : (p ++ (a1 ++ a2) ++ (b1 ++ b2) ++ q).length = (p ++ mrg lt a1 b1 ++ a2 ++ b2 ++ q).length := by simp [C0o]; omega
theorem A43 {α : Type} {l : List α} : decide (0 < l.length) = !l.isEmpty := by cases l <;> simp
theorem dlt {a b n : Nat} (h : b = a + n) : decide (a < b) = decide (0 < n) := decide_eq_decide.2 (by omega)

/-- Which of two texts stands ahead. -/
def A26 : List UInt8 → List UInt8 → Int
 | [], [] => 0
 | [], _ :: _ => -1
 | _ :: _, [] => 1
 | x :: a, y :: b => if x < y then -1 else if y < x then 1 else A26 a b

def C23 (a b : List UInt8) : Option Nat := (List.range (min a.length b.length)).find? fun i => a[i]! != b[i]!

theorem D2t (x y : UInt8) (a b : List UInt8) : C23 (x :: a) (y :: b) = if x = y then (C23 a b).map (· + 1) else some 0 := by
 unfold C23
 have e : min (x :: a).length (y :: b).length = min a.length b.length + 1 := by simp only [List.length_cons]; omega
 rw [e, List.range_succ_eq_map, List.find?_cons]
 by_cases h : x = y
 ·subst h
  have : ((x :: a)[0]! != (x :: b)[0]!) = false := by simp
  rw [this]
  simp only [if_true]
  rw [List.find?_map]
  congr 1
 ·have : ((x :: a)[0]! != (y :: b)[0]!) = true := by simpa using h
  rw [this, if_neg h]

theorem D0d : ∀ a b : List UInt8, A26 a b = match C23 a b with
  | some i => if a[i]! < b[i]! then -1 else 1
  | none => if a.length < b.length then -1 else if a.length > b.length then 1 else 0
 | [], [] => rfl
 | [], y :: b => by simp [A26, C23]
 | x :: a, [] => by simp [A26, C23]
 | x :: a, y :: b => by
  have ih := D0d a b
  rw [D2t]
  simp only [A26]
  by_cases h : x = y
  ·subst h
   rw [if_pos rfl, if_neg (by simp), if_neg (by simp), ih]
   cases C23 a b with
   | none => simp
   | some i => simp
  ·rw [if_neg h]
   simp only [List.getElem!_cons_zero]
   by_cases h1 : x < y
   ·rw [if_pos h1, if_pos h1]
   ·rw [if_neg h1, if_neg h1, if_pos]
    have h1' : ¬ x.toNat < y.toNat := h1
    have h' : x.toNat ≠ y.toNat := fun e => h (UInt8.toNat_inj.1 e)
    show y.toNat < x.toNat
    omega

theorem D8i (l : List UInt8) (i : Nat) : (D6 l)[i]! = l[i]! := by
 rw [getElem!_def, getElem!_def, E2w]

theorem D9r (a b : List UInt8) : Extern.BytealgCompare.cmp (D6 a) (D6 b) = A26 a b := by
 rw [D0d]
 unfold Extern.BytealgCompare.cmp C23
 have e1 : (D6 a).size = a.length := rfl
 have e2 : (D6 b).size = b.length := rfl
 simp only [e1, e2, D8i]
 first | done | rfl | (split <;> split <;> simp_all)

def C47 : Array Value → Sem Value := Extern.BytealgCompare.compare

theorem D2g (a b : List UInt8) : Meets Tryz.prog E0 A06 [Q5 (D6 a), Q5 (D6 b)] [] (I (A26 a b)) [] := by
 refine C82 rfl rfl fun A φ w vals hv => ?_
 simp only [H7] at hv
 obtain ⟨x, _, e1, hx, y, _, rfl, hy, rfl⟩ := hv
 obtain ⟨rfl, _⟩ := U3 hx
 obtain ⟨rfl, _⟩ := U3 hy
 have e2 : vals = #[.string (D6 a), .string (D6 b)] := by cases vals; simp_all
 subst e2
 refine ⟨.int .i64 (A26 a b), ?_, ?_⟩
 ·rw [run_callFunc_extern Tryz.func140 (by kernel_rfl) (by kernel_rfl) (by kernel_rfl) (show Extern.find _ = some C47 by kernel_rfl)]
  show (Result.andThen ((C47 #[.string (D6 a), .string (D6 b)]).run Tryz.prog w) _) = _
  have : (C47 #[.string (D6 a), .string (D6 b)]).run Tryz.prog w = .ok (.int .i64 (Extern.BytealgCompare.cmp (D6 a) (D6 b))) w := rfl
  rw [this, D9r]
  rfl
 ·simp only [CA, CT]
  exact ⟨trivial, rfl⟩

theorem B94 (a b : List UInt8) : Meets Tryz.prog E0 A4w [Q5 (D6 a), Q5 (D6 b)] [] (I (A26 a b)) [] := by
 have h : Meets Tryz.prog E0 A1d [Q5 (D6 a), Q5 (D6 b)] [] (I (A26 a b)) [] := by
  refine X6 B1u ?_
  simp only [go_sem, A4e]
  refine A6 (D2g a b) ?_
  simp only [go_sem]
  refine wE ?_
  simp only [go_sem, A4f]
 refine X6 B8x ?_
 simp only [go_sem, A9r]
 refine A6 h ?_
 simp only [go_sem]
 refine wE ?_
 simp only [go_sem, B01]

theorem lt8 {x y : UInt8} : x < y ↔ x.toNat < y.toNat := Iff.rfl

theorem D0o : ∀ a b : List UInt8, Op.bytesLess a b = true ↔ A26 a b < 0
 | [], [] => by simp [Op.bytesLess, A26]
 | [], _ :: _ => by simp [Op.bytesLess, A26]
 | _ :: _, [] => by simp [Op.bytesLess, A26]
 | x :: a, y :: b => by
  have ih := D0o a b
  simp only [Op.bytesLess, A26, Bool.or_eq_true, Bool.and_eq_true, decide_eq_true_eq, beq_iff_eq]
  by_cases h1 : x < y
  ·rw [if_pos h1]; exact ⟨fun _ => by decide, fun _ => Or.inl h1⟩
  ·by_cases h2 : y < x
   ·rw [if_neg h1, if_pos h2]
    have : ¬ x = y := fun e => by rw [e, lt8] at h2; omega
    exact ⟨fun h => h.elim (fun h => absurd h h1) (fun h => absurd h.1 this), fun h => absurd h (by decide)⟩
   ·rw [if_neg h1, if_neg h2]
    have : x = y := UInt8.toNat_inj.1 (by rw [lt8] at h1 h2; omega)
    exact ⟨fun h => h.elim (fun h => absurd h h1) (fun h => ih.1 h.2), fun h => Or.inr ⟨this, ih.2 h⟩⟩

theorem B2o : ∀ a b : List UInt8, A26 b a = -A26 a b
 | [], [] => rfl
 | [], _ :: _ => rfl
 | _ :: _, [] => rfl
 | x :: a, y :: b => by
  have ih := B2o a b
  simp only [A26]
  by_cases h1 : x < y
  ·have h2 : ¬ y < x := by rw [lt8] at h1 ⊢; omega
   rw [if_pos h1, if_neg h2, if_pos h1] <;> rfl
  ·by_cases h2 : y < x
   ·rw [if_pos h2, if_neg h1, if_pos h2]
   ·rw [if_neg h2, if_neg h1, if_neg h1, if_neg h2, ih]

theorem D24 : ∀ a b : List UInt8, A26 a b = 0 ↔ a = b
 | [], [] => by simp [A26]
 | [], _ :: _ => by simp [A26]
 | _ :: _, [] => by simp [A26]
 | x :: a, y :: b => by
  have ih := D24 a b
  simp only [A26, List.cons.injEq]
  by_cases h1 : x < y
  ·rw [if_pos h1]
   exact ⟨fun h => absurd h (by decide), fun h => by rw [h.1, lt8] at h1; omega⟩
  ·by_cases h2 : y < x
   ·rw [if_neg h1, if_pos h2]
    exact ⟨fun h => absurd h (by decide), fun h => by rw [h.1, lt8] at h2; omega⟩
   ·rw [if_neg h1, if_neg h2, ih]
    have : x = y := UInt8.toNat_inj.1 (by rw [lt8] at h1 h2; omega)
    exact ⟨fun h => ⟨this, h⟩, fun h => h.2⟩

theorem D7w : ∀ a b c : List UInt8, A26 a b ≤ 0 → A26 b c ≤ 0 → A26 a c ≤ 0
 | [], [], [], _, _ => by simp [A26]
 | [], _ :: _, [], _, h => by simp [A26] at h
 | [], _, _ :: _, _, _ => by simp [A26]
 | _ :: _, [], _, h, _ => by simp [A26] at h
 | _ :: _, _ :: _, [], _, h => by simp [A26] at h
 | x :: a, y :: b, z :: c, h1, h2 => by
  have ih := D7w a b c
  simp only [A26] at h1 h2 ⊢
  by_cases q1 : x < y
  ·by_cases q2 : y < z
   ·have : x < z := by rw [lt8] at *; omega
    rw [if_pos this]; decide
   ·by_cases q3 : z < y
    ·rw [if_neg q2, if_pos q3] at h2; exact absurd h2 (by decide)
    ·have : x < z := by rw [lt8] at *; omega
     rw [if_pos this]; decide
  ·by_cases q4 : y < x
   ·rw [if_neg q1, if_pos q4] at h1; exact absurd h1 (by decide)
   ·rw [if_neg q1, if_neg q4] at h1
    by_cases q2 : y < z
    ·have : x < z := by rw [lt8] at *; omega
     rw [if_pos this]; decide
    ·by_cases q3 : z < y
     ·rw [if_neg q2, if_pos q3] at h2; exact absurd h2 (by decide)
     ·rw [if_neg q2, if_neg q3] at h2
      have n1 : ¬ x < z := by rw [lt8] at *; omega
      have n2 : ¬ z < x := by rw [lt8] at *; omega
      rw [if_neg n1, if_neg n2]
      exact ih h1 h2

theorem E04 (a b : List UInt8) : S2 .leq (D6 a) (D6 b) = some (.bool (!decide (A26 b a < 0))) := by
 simp only [S2]
 congr 2
 rw [Lib.toList_data, Lib.toList_data, X2, X2, Bool.eq_iff_iff]
 simp only [Bool.or_eq_true, beq_iff_eq, Bool.not_eq_true', decide_eq_false_iff_not]
 rw [D0o, ← D24, B2o a b]
 omega

/-- A wide number. -/
abbrev WV (n : Nat) : AV := .ag [U ((n / 18446744073709551616 : Nat) : Int), U ((n % 18446744073709551616 : Nat) : Int)]

theorem C3w (n : Nat) : (n % 18446744073709551616) &&& (1 % 18446744073709551616) = n % 2 := by
 rw [show 1 % 18446744073709551616 = 2 ^ 1 - 1 from rfl, Nat.and_two_pow_sub_one_eq_mod]; omega

theorem B4o (a i : Nat) (hi : i < 128) : Meets Tryz.prog E0 A6k [WV a, I i] [] (U (a / 2 ^ i % 2 : Nat)) [] := by
 refine D1j (by simp) (B05 rfl) (B05 rfl) (by simp) (by simp [A4]) ?_
 simp only [C24, go_sem, ↓reduceIte, Nat.reduceEqDiff, Nat.reduceAdd, Nat.reduceLeDiff, reduceCtorEq]
 refine G3 rfl (fun h => ?_) (fun h => ?_)
 ·simp at h
  have e : IntKind.u64.wrap (IntKind.i64.wrap ((i : Int) - 64)) = ((i - 64 : Nat) : Int) := by rw [A5 (by omega) (by omega), A0t]; omega
  simp only [go_sem, e, ↓reduceIte, Nat.reduceEqDiff, Nat.reduceAdd, Nat.reduceLeDiff, reduceCtorEq]
  refine C83 (Or.inl rfl) ?_ rfl
  simp only [B57, go_sem, ↓reduceIte, Nat.reduceEqDiff, C3w]
  rw [Nat.min_eq_left (by omega), show 18446744073709551616 = 2 ^ 64 from rfl, Nat.div_div_eq_div_mul, ← Nat.pow_add, show 64 + (i - 64) = i by omega]
 ·simp at h
  have e : IntKind.u64.wrap (i : Int) = (i : Int) := by rw [A0t]; omega
  simp only [go_sem, e, ↓reduceIte, Nat.reduceEqDiff, Nat.reduceAdd, Nat.reduceLeDiff, reduceCtorEq]
  refine C83 (Or.inl rfl) ?_ rfl
  simp only [B57, go_sem, ↓reduceIte, Nat.reduceEqDiff, C3w]
  rw [Nat.min_eq_left (by omega)]
  congr 5
  have h64 : (2 : Nat) ^ 64 = 2 ^ i * 2 ^ (64 - i) := by rw [← Nat.pow_add]; congr 1; omega
  have h2 : (2 : Nat) ^ (64 - i) = 2 * 2 ^ (63 - i) := by rw [← Nat.pow_succ']; congr 1; omega
  rw [show 18446744073709551616 = 2 ^ 64 from rfl, h64, Nat.mod_mul_right_div_self, h2, Nat.mod_mul_right_mod]

theorem D3a {x j : Nat} (h : x / 2 ^ j % 2 = 0) : x ||| 2 ^ j = x + 2 ^ j := by
 have hp : 0 < 2 ^ j := Nat.two_pow_pos j
 have hx : x = 2 ^ (j + 1) * (x / 2 ^ (j + 1)) + x % 2 ^ j := by
  have h1 := Nat.div_add_mod x (2 ^ j)
  have h2 : x / 2 ^ j = 2 * (x / 2 ^ (j + 1)) := by
   rw [Nat.pow_succ, ← Nat.div_div_eq_div_mul]; omega
  rw [Nat.pow_succ, Nat.mul_assoc, ← Nat.pow_succ, ← h2]; exact h1.symm
 have hr : x % 2 ^ j < 2 ^ j := Nat.mod_lt _ hp
 generalize x / 2 ^ (j + 1) = q at hx
 generalize x % 2 ^ j = r at hx hr
 subst hx
 have hr1 : r < 2 ^ (j + 1) := by rw [Nat.pow_succ]; omega
 have hr2 : 2 ^ j + r < 2 ^ (j + 1) := by rw [Nat.pow_succ]; omega
 rw [Nat.two_pow_add_eq_or_of_lt hr1, Nat.or_assoc, Nat.or_comm r, ← Nat.mul_one (2 ^ j), ← Nat.two_pow_add_eq_or_of_lt hr, Nat.mul_one, ← Nat.two_pow_add_eq_or_of_lt hr2, ← Nat.two_pow_add_eq_or_of_lt hr1]
 omega

theorem D4c {j : Nat} (h : j < 64) : 2 ^ (min j 64) % 18446744073709551616 % 18446744073709551616 = 2 ^ j := by
 rw [Nat.min_eq_left (by omega), Nat.mod_mod, show 18446744073709551616 = 2 ^ 64 from rfl]
 exact Nat.mod_eq_of_lt (Nat.pow_lt_pow_right (by decide) h)

theorem D99 {a i : Nat} (h : i < 64) : a % 18446744073709551616 / 2 ^ i % 2 = a / 2 ^ i % 2 := by
 have h64 : (2 : Nat) ^ 64 = 2 ^ i * 2 ^ (64 - i) := by rw [← Nat.pow_add]; congr 1; omega
 have h2 : (2 : Nat) ^ (64 - i) = 2 * 2 ^ (63 - i) := by rw [← Nat.pow_succ']; congr 1; omega
 rw [show 18446744073709551616 = 2 ^ 64 from rfl, h64, Nat.mod_mul_right_div_self, h2, Nat.mod_mul_right_mod]

theorem B3e (a i : Nat) (hi : i < 128) (ha : a < 340282366920938463463374607431768211456) (h0 : a / 2 ^ i % 2 = 0) : Meets Tryz.prog E0 A7t [WV a, I i] [] (WV (a + 2 ^ i)) [] := by
 refine C96 (by simp) (B05 rfl) (B05 rfl) (by simp) (by simp [A4]) ?_
 simp only [B9v, go_sem, ↓reduceIte, Nat.reduceEqDiff, Nat.reduceAdd, Nat.reduceLeDiff, reduceCtorEq]
 refine G3 rfl (fun h => ?_) (fun h => ?_)
 ·simp at h
  have e : IntKind.u64.wrap (IntKind.i64.wrap ((i : Int) - 64)) = ((i - 64 : Nat) : Int) := by rw [A5 (by omega) (by omega), A0t]; omega
  simp only [go_sem, e, ↓reduceIte, Nat.reduceEqDiff, Nat.reduceAdd, Nat.reduceLeDiff, reduceCtorEq]
  refine C83 (Or.inl rfl) ?_ rfl
  simp only [B3i, go_sem, ↓reduceIte, Nat.reduceEqDiff, Nat.reduceAdd, Nat.reduceLeDiff, reduceCtorEq]
  have e1 : a / 18446744073709551616 % 18446744073709551616 = a / 18446744073709551616 := by omega
  have hb : a / 18446744073709551616 / 2 ^ (i - 64) % 2 = 0 := by
   rw [show 18446744073709551616 = 2 ^ 64 from rfl, Nat.div_div_eq_div_mul, ← Nat.pow_add, show 64 + (i - 64) = i by omega]; exact h0
  have hp : 2 ^ i = 18446744073709551616 * 2 ^ (i - 64) := by rw [show 18446744073709551616 = 2 ^ 64 from rfl, ← Nat.pow_add]; congr 1; omega
  rw [e1, D4c (by omega), D3a hb, hp]
  simp only [Option.some.injEq, AV.ag.injEq, List.cons.injEq, AV.t.injEq, T.v.injEq, Value.int.injEq, true_and, and_true]
  omega
 ·simp at h
  have e : IntKind.u64.wrap (i : Int) = (i : Int) := by rw [A0t]; omega
  simp only [go_sem, e, ↓reduceIte, Nat.reduceEqDiff, Nat.reduceAdd, Nat.reduceLeDiff, reduceCtorEq]
  refine C83 (Or.inl rfl) ?_ rfl
  simp only [B3i, go_sem, ↓reduceIte, Nat.reduceEqDiff, Nat.reduceAdd, Nat.reduceLeDiff, reduceCtorEq]
  have hb : a % 18446744073709551616 / 2 ^ i % 2 = 0 := by rw [D99 (by omega)]; exact h0
  have hlt : a % 18446744073709551616 + 2 ^ i < 18446744073709551616 := by
   rw [← D3a hb]
   exact Nat.or_lt_two_pow (n := 64) (Nat.mod_lt _ (by decide)) (Nat.pow_lt_pow_right (by decide) (by omega))
  rw [Nat.mod_mod, D4c (by omega), D3a hb]
  generalize 2 ^ i = x at *
  simp only [Option.some.injEq, AV.ag.injEq, List.cons.injEq, AV.t.injEq, T.v.injEq, Value.int.injEq, true_and, and_true]
  omega

theorem D3z (a i : Nat) : a / 2 ^ i % 2 < 2 := Nat.mod_lt _ (by decide)

theorem C67 (a i : Nat) : a % 2 ^ (i + 1) = a % 2 ^ i + 2 ^ i * (a / 2 ^ i % 2) := by
 rw [Nat.pow_succ, Nat.mod_mul]

theorem D6i {s i : Nat} (h : s < 2 ^ i) : s / 2 ^ i % 2 = 0 := by rw [Nat.div_eq_of_lt h]

theorem E1r {i : Nat} (h : i ≤ 128) : 2 ^ i ≤ 340282366920938463463374607431768211456 :=
 Nat.le_trans (Nat.pow_le_pow_right (by decide) h) (by decide)

theorem D83 {a b i c s t : Nat} (h : a % 2 ^ i + b % 2 ^ i = c * 2 ^ i + s) (hs : s < 2 ^ i) (ht : t = a / 2 ^ i % 2 + b / 2 ^ i % 2 + c) (hc : c ≤ 1) :
  t ≤ 3 ∧ (t % 2 = 1 → a % 2 ^ (i + 1) + b % 2 ^ (i + 1) = t / 2 * 2 ^ (i + 1) + (s + 2 ^ i)) ∧ (t % 2 = 0 → a % 2 ^ (i + 1) + b % 2 ^ (i + 1) = t / 2 * 2 ^ (i + 1) + s) := by
 have h1 := D3z a i
 have h2 := D3z b i
 rw [C67, C67, Nat.pow_succ]
 generalize a / 2 ^ i % 2 = x at *
 generalize b / 2 ^ i % 2 = y at *
 generalize a % 2 ^ i = A at *
 generalize b % 2 ^ i = B at *
 generalize 2 ^ i = P at *
 have hx : x = 0 ∨ x = 1 := by omega
 have hy : y = 0 ∨ y = 1 := by omega
 have hc : c = 0 ∨ c = 1 := by omega
 rcases hx with rfl | rfl <;> rcases hy with rfl | rfl <;> rcases hc with rfl | rfl <;> subst ht <;> simp at * <;> omega

theorem C2c (a b : Nat) (ha : a < 340282366920938463463374607431768211456) (hb : b < 340282366920938463463374607431768211456) :
  Meets Tryz.prog E0 A9v [WV a, WV b] [] (.tp [WV ((a + b) % 340282366920938463463374607431768211456), Bo (decide (340282366920938463463374607431768211456 ≤ a + b))]) [] := by
 refine D21 (by simp) (B05 rfl) (B05 rfl) (by simp) (by simp [A4]) ?_
 simp only [C2p, go_sem, ↓reduceIte, Nat.reduceEqDiff, Nat.reduceAdd, Nat.reduceLeDiff, reduceCtorEq]
 refine C8 (fun x : Nat × Nat × Nat => 128 - x.1) (fun x => x.1 ≤ 128 ∧ a % 2 ^ x.1 + b % 2 ^ x.1 = x.2.1 * 2 ^ x.1 + x.2.2 ∧ x.2.2 < 2 ^ x.1 ∧ x.2.1 ≤ 1)
  (fun x => [(2, .ptr 100 0), (3, .ptr 101 0), (4, .ptr 102 0), (5, Bo false), (6, .ptr 104 0), (7, U x.2.1), (8, I x.1)])
  (fun x => [(104, .box [U (x.2.2 / 18446744073709551616 : Nat), U (x.2.2 % 18446744073709551616 : Nat)]), (102, .box [U (0 : Nat), U (0 : Nat)]),
   (101, .box [U (b / 18446744073709551616 : Nat), U (b % 18446744073709551616 : Nat)]), (100, .box [U (a / 18446744073709551616 : Nat), U (a % 18446744073709551616 : Nat)])])
  (0, 0, 0) (by simp [Nat.mod_one]) ?_ ?_
 ·refine C0t [] [] ?_ ?_ ?_ (by simp) (by simp [A4]) (by simp [A4])
  ·simp [A6s, go_sem, G1, AV.ids, A4, ren]
  ·simp [A1t, go_sem, G1, G2, wkO, AV.ids, Ob.ids, B5, A4, ren, AV.one]
  ·simp [A4, ren]
 ·rintro ⟨i, c, s⟩ ⟨hi, hA, hs, hc⟩
  simp only at hi hA hs hc
  simp only [go_sem, ↓reduceIte, Nat.reduceEqDiff, Nat.reduceAdd, Nat.reduceLeDiff, reduceCtorEq]
  refine G3 rfl (fun h => ?_) (fun h => ?_)
  ·simp at h
   have hstep := D83 hA hs rfl hc
   have e : ((a / 2 ^ i % 2 + b / 2 ^ i % 2) % 18446744073709551616 + c) % 18446744073709551616 = a / 2 ^ i % 2 + b / 2 ^ i % 2 + c := by omega
   have ei : IntKind.i64.wrap ((i : Int) + 1) = ((i + 1 : Nat) : Int) := by rw [A5 (by omega) (by omega)]; omega
   have hsP : s < 340282366920938463463374607431768211456 := Nat.lt_of_lt_of_le hs (E1r hi)
   generalize ht : a / 2 ^ i % 2 + b / 2 ^ i % 2 + c = t at *
   simp only [go_sem, ↓reduceIte, Nat.reduceEqDiff, Nat.reduceAdd, Nat.reduceLeDiff, reduceCtorEq]
   refine A6 (B4o a i (by omega)) ?_
   simp only [go_sem, ↓reduceIte, Nat.reduceEqDiff, Nat.reduceAdd, Nat.reduceLeDiff, reduceCtorEq]
   refine A6 (B4o b i (by omega)) ?_
   simp only [go_sem, e, ↓reduceIte, Nat.reduceEqDiff, Nat.reduceAdd, Nat.reduceLeDiff, reduceCtorEq]
   refine D04 (okp rfl rfl rfl D78) ?_
   simp only [go_sem, C3w, ↓reduceIte, Nat.reduceEqDiff, Nat.reduceAdd, Nat.reduceLeDiff, reduceCtorEq]
   refine G3 rfl (fun h1 => ?_) (fun h1 => ?_)
   ·simp at h1
    simp only [go_sem, ↓reduceIte, Nat.reduceEqDiff, Nat.reduceAdd, Nat.reduceLeDiff, reduceCtorEq]
    refine A6 (B3e s i (by omega) hsP (D6i hs)) ?_
    simp only [go_sem, ei, ↓reduceIte, Nat.reduceEqDiff, Nat.reduceAdd, Nat.reduceLeDiff, reduceCtorEq]
    refine C3 (i + 1, t / 2, s + 2 ^ i) (by simp only; omega) ⟨by simp only; omega, hstep.2.1 h1, by simp only [Nat.pow_succ]; omega, by simp only; omega⟩ ?_
    refine C0t [] [] ?_ ?_ ?_ (by simp) (by simp [A4]) (by simp [A4])
    ·simp [A6s, go_sem, G1, AV.ids, A4, ren]
    ·simp [A1t, go_sem, G1, G2, wkO, AV.ids, Ob.ids, B5, A4, ren, AV.one]
    ·simp [A4, ren]
   ·simp at h1
    simp only [go_sem, ei, ↓reduceIte, Nat.reduceEqDiff, Nat.reduceAdd, Nat.reduceLeDiff, reduceCtorEq]
    refine C3 (i + 1, t / 2, s) (by simp only; omega) ⟨by simp only; omega, hstep.2.2 (by omega), by simp only [Nat.pow_succ]; omega, by simp only; omega⟩ ?_
    refine C0t [] [] ?_ ?_ ?_ (by simp) (by simp [A4]) (by simp [A4])
    ·simp [A6s, go_sem, G1, AV.ids, A4, ren]
    ·simp [A1t, go_sem, G1, G2, wkO, AV.ids, Ob.ids, B5, A4, ren, AV.one]
    ·simp [A4, ren]
  ·simp only [go_sem, ↓reduceIte, Nat.reduceEqDiff, Nat.reduceAdd, Nat.reduceLeDiff, reduceCtorEq]
   refine C83 (Or.inl rfl) ?_ rfl
   simp only [C28, go_sem, ↓reduceIte, Nat.reduceEqDiff, Nat.reduceAdd, Nat.reduceLeDiff, reduceCtorEq]
   simp at h
   have e : i = 128 := by omega
   subst e
   rw [Nat.mod_eq_of_lt (show a < 2 ^ 128 from ha), Nat.mod_eq_of_lt (show b < 2 ^ 128 from hb), show 2 ^ 128 = 340282366920938463463374607431768211456 from rfl] at hA
   rw [show 2 ^ 128 = 340282366920938463463374607431768211456 from rfl] at hs
   simp only [Option.some.injEq, AV.tp.injEq, AV.ag.injEq, List.cons.injEq, AV.t.injEq, T.v.injEq, Value.int.injEq, Value.bool.injEq, decide_eq_decide, true_and, and_true]
   omega

theorem B9g (x y c : Nat) (hc : c ≤ 1) : Meets Tryz.prog E0 B38 [U x, U y, U c] [] (.tp [U ((x + y + c) % 18446744073709551616 : Nat), U ((x + y + c) / 18446744073709551616 : Nat)]) [] :=
 D0m Tryz.func155 (by kernel_rfl) (by kernel_rfl) (by kernel_rfl) (by kernel_rfl) x y c hc

theorem D31 (a b : Nat) (ha : a < 340282366920938463463374607431768211456) (hb : b < 340282366920938463463374607431768211456) : Meets Tryz.prog E0 B7v [WV a, WV b] [] (.tp [WV ((a + b) % 340282366920938463463374607431768211456), Bo (decide (340282366920938463463374607431768211456 ≤ a + b))]) [] := by
 refine X6 D2l ?_
 simp only [go_sem, C5x]
 refine A6 (B9g _ _ _ (by decide)) ?_
 simp only [go_sem]
 refine A6 (B9g _ _ _ (by omega)) ?_
 simp only [go_sem]
 refine wE ?_
 simp only [go_sem, C52]
 simp only [Option.some.injEq, AV.tp.injEq, AV.ag.injEq, List.cons.injEq, AV.t.injEq, T.v.injEq, T.sl.injEq, Value.int.injEq, Value.bool.injEq, Value.string.injEq, decide_eq_decide, true_and, and_true]
 omega

theorem B5w (a : Nat) (ha : a < 340282366920938463463374607431768211456) : Meets Tryz.prog E0 A95 [WV a] [] (.tp [WV (2 * a % 340282366920938463463374607431768211456), Bo (decide (340282366920938463463374607431768211456 ≤ 2 * a))]) [] := by
 refine X6 C53 ?_
 simp only [go_sem, B5x]
 refine D04 (okp rfl rfl rfl D78) ?_
 simp only [go_sem]
 refine wE ?_
 simp only [go_sem, B5j]
 have e1 : (a / 18446744073709551616 * 2 ^ (min 1 64) % 18446744073709551616) % 18446744073709551616 ||| (a % 18446744073709551616 / 2 ^ (min 63 64)) % 18446744073709551616 = a / 18446744073709551616 * 2 % 18446744073709551616 + a % 18446744073709551616 / 9223372036854775808 := by
  have h1 : a % 18446744073709551616 / 2 ^ (min 63 64) < 2 ^ 1 := by
   rw [show 2 ^ (min 63 64) = 9223372036854775808 from rfl]; omega
  have h2 : (a / 18446744073709551616 * 2 ^ (min 1 64) % 18446744073709551616) % 18446744073709551616 = 2 ^ 1 * (a / 18446744073709551616 % 9223372036854775808) := by
   rw [show 2 ^ (min 1 64) = 2 from rfl]; omega
  rw [h2, Nat.mod_eq_of_lt (show a % 18446744073709551616 / 2 ^ (min 63 64) < 18446744073709551616 by omega), ← Nat.two_pow_add_eq_or_of_lt h1, show 2 ^ (min 63 64) = 9223372036854775808 from rfl]
  omega
 simp only [e1]
 rw [show 2 ^ (min 63 64) = 9223372036854775808 from rfl, show 2 ^ (min 1 64) = 2 from rfl]
 simp only [Option.some.injEq, AV.tp.injEq, AV.ag.injEq, List.cons.injEq, AV.t.injEq, T.v.injEq, T.sl.injEq, Value.int.injEq, Value.bool.injEq, Value.string.injEq, decide_eq_decide, true_and, and_true]
 omega

theorem D6q (x0 x1 y0 y1 : Nat) : (x1 * 4294967296 + x0) * (y1 * 4294967296 + y0) = x1 * y1 * 18446744073709551616 + (x1 * y0 + x0 * y1) * 4294967296 + x0 * y0 := by
 have h : x1 * 4294967296 * (y1 * 4294967296) = x1 * y1 * 18446744073709551616 := by rw [Nat.mul_mul_mul_comm]
 have h2 : x1 * 4294967296 * y0 = x1 * y0 * 4294967296 := Nat.mul_right_comm _ _ _
 have h3 : x0 * (y1 * 4294967296) = x0 * y1 * 4294967296 := (Nat.mul_assoc _ _ _).symm
 rw [Nat.add_mul, Nat.mul_add, Nat.mul_add, h, h2, h3]
 omega

theorem D7t (n : Nat) : (n % 18446744073709551616) &&& (4294967295 % 18446744073709551616) = n % 4294967296 := by
 rw [show 4294967295 % 18446744073709551616 = 2 ^ 32 - 1 from rfl, Nat.and_two_pow_sub_one_eq_mod]; omega

theorem C9o (x y : Nat) (hx : x < 18446744073709551616) (hy : y < 18446744073709551616) : Meets Tryz.prog E0 B3n [U x, U y] [] (.tp [U (x * y / 18446744073709551616 : Nat), U (x * y % 18446744073709551616 : Nat)]) [] := by
 refine X6 C8r ?_
 simp only [go_sem, B97, D7t]
 refine wE ?_
 simp only [go_sem, B9p]
 rw [show 2 ^ (min 32 64) = 4294967296 from rfl]
 simp only [Option.some.injEq, AV.tp.injEq, AV.ag.injEq, List.cons.injEq, AV.t.injEq, T.v.injEq, T.sl.injEq, Value.int.injEq, Value.bool.injEq, Value.string.injEq, decide_eq_decide, true_and, and_true]
 have hxy := D6q (x % 4294967296) (x / 4294967296) (y % 4294967296) (y / 4294967296)
 rw [Nat.div_add_mod' x, Nat.div_add_mod' y] at hxy
 rw [hxy]
 have b1 : x % 4294967296 ≤ 4294967295 := by omega
 have b2 : x / 4294967296 ≤ 4294967295 := by omega
 have b3 : y % 4294967296 ≤ 4294967295 := by omega
 have b4 : y / 4294967296 ≤ 4294967295 := by omega
 have p1 := Nat.mul_le_mul b1 b3
 have p2 := Nat.mul_le_mul b1 b4
 have p3 := Nat.mul_le_mul b2 b3
 have p4 := Nat.mul_le_mul b2 b4
 clear hxy
 generalize x % 4294967296 * (y % 4294967296) = a at *
 generalize x % 4294967296 * (y / 4294967296) = b at *
 generalize x / 4294967296 * (y % 4294967296) = c at *
 generalize x / 4294967296 * (y / 4294967296) = d at *
 omega

theorem B7y (x y : Nat) (hx : x < 18446744073709551616) (hy : y < 18446744073709551616) : Meets Tryz.prog E0 B88 [U x, U y] [] (WV (x * y)) [] := by
 refine X6 D3l ?_
 simp only [go_sem, C59]
 refine A6 (C9o x y hx hy) ?_
 simp only [go_sem]
 refine wE ?_
 simp only [go_sem, C4e]

theorem C1p {x y : Nat} (hx : x < 18446744073709551616) (hy : y ≤ 18446744073709551616) : x * y < 340282366920938463463374607431768211456 := by
 have h := Nat.mul_le_mul (show x ≤ 18446744073709551615 by omega) hy
 omega

theorem B03 (x y : Nat) (hx : x < 18446744073709551616) (hy : y < 18446744073709551616) : Meets Tryz.prog E0 A9x [U x, U y] [] (WV (x * y)) [] := by
 refine X6 D2d ?_
 simp only [go_sem, C2q]
 refine C8 (fun s : Nat × Nat × Nat => 64 - s.1) (fun s => s.1 ≤ 64 ∧ s.2.1 = x * (y % 2 ^ s.1) ∧ s.2.2 = x * 2 ^ s.1)
  (fun s => [(0, U x), (1, U y), (4, .ptr 100 0), (5, .ptr 101 0), (6, .ptr 104 0), (7, I s.1)])
  (fun s => [(104, .box [U (s.2.2 / 18446744073709551616 : Nat), U (s.2.2 % 18446744073709551616 : Nat)]), (101, .box [U (s.2.1 / 18446744073709551616 : Nat), U (s.2.1 % 18446744073709551616 : Nat)]), (100, .box [U (0 : Nat), U (0 : Nat)])])
  (0, 0, x) (by simp [Nat.mod_one]) ?_ ?_
 ·refine C0t [] [] (by simp [A6s, go_sem, G1, G2, AV.ids, B5, A4, ren]) ?_ (by simp [A4, ren]) (by simp) (by simp [A4]) (by simp [A4])
  simp [A1t, go_sem, G1, G2, wkO, AV.ids, Ob.ids, B5, A4, ren, AV.one]
  omega
 ·rintro ⟨i, o, p⟩ ⟨hi, ho, hp⟩
  simp only at hi ho hp
  simp only [go_sem]
  refine G3 rfl (fun h => ?_) (fun h => ?_)
  ·simp at h
   have hmod : y % 2 ^ (i + 1) = y % 2 ^ i + 2 ^ i * (y / 2 ^ i % 2) := C67 y i
   have e1 : IntKind.u64.wrap (i : Int) = (i : Int) := by rw [A0t]; omega
   have ei : IntKind.i64.wrap ((i : Int) + 1) = ((i + 1 : Nat) : Int) := by rw [A5 (by omega) (by omega)]; omega
   have h2i : 2 ^ (i + 1) ≤ 18446744073709551616 := Nat.le_trans (Nat.pow_le_pow_right (by decide) (show i + 1 ≤ 64 by omega)) (by decide)
   have hbo : x * (y % 2 ^ (i + 1)) < 340282366920938463463374607431768211456 := C1p hx (Nat.le_trans (Nat.le_of_lt (Nat.mod_lt _ (Nat.two_pow_pos _))) h2i)
   have hbp : x * 2 ^ (i + 1) < 340282366920938463463374607431768211456 := C1p hx h2i
   have hpow : x * 2 ^ (i + 1) = 2 * p := by rw [hp, Nat.pow_succ, ← Nat.mul_assoc, Nat.mul_comm]
   rw [hmod, Nat.mul_add, ← Nat.mul_assoc, ← hp, ← ho] at hbo
   rw [hpow] at hbp
   have hob : o < 340282366920938463463374607431768211456 := by omega
   simp only [go_sem, e1, C3w, Nat.min_eq_left (show i ≤ 64 by omega)]
   refine G3 rfl (fun h1 => ?_) (fun h1 => ?_)
   ·simp at h1
    rw [h1, Nat.mul_one] at hbo
    simp only [go_sem]
    refine A6 (C2c o p hob (by omega)) ?_
    simp only [go_sem]
    refine A6 (B5w p (by omega)) ?_
    simp only [go_sem, ei]
    refine C3 (i + 1, o + p, 2 * p) (by simp only; omega) ⟨by simp only; omega, by simp only; rw [hmod, h1, Nat.mul_one, Nat.mul_add, ← hp, ← ho], by simp only; rw [hpow]⟩ ?_
    rw [Nat.mod_eq_of_lt hbo, Nat.mod_eq_of_lt hbp]
    exact sR0
   ·simp at h1
    simp only [go_sem]
    refine A6 (B5w p (by omega)) ?_
    simp only [go_sem, ei]
    refine C3 (i + 1, o, 2 * p) (by simp only; omega) ⟨by simp only; omega, by simp only; rw [hmod, show y / 2 ^ i % 2 = 0 by omega, Nat.mul_zero, Nat.add_zero, ← ho], by simp only; rw [hpow]⟩ ?_
    rw [Nat.mod_eq_of_lt hbp]
    exact sR0
  ·simp at h
   simp only [go_sem]
   refine wE ?_
   simp only [go_sem, C2b]
   have e : i = 64 := by omega
   subst e
   rw [Nat.mod_eq_of_lt (show y < 2 ^ 64 from hy)] at ho
   rw [ho]

theorem E25 {r b : Nat} (hb : b < 2) : (r * 2 ^ (min 1 64) % 18446744073709551616) % 18446744073709551616 ||| (b % 18446744073709551616) = 2 * r % 18446744073709551616 + b := by
 have h1 : b < 2 ^ 1 := hb
 have h2 : (r * 2 ^ (min 1 64) % 18446744073709551616) % 18446744073709551616 = 2 ^ 1 * (r % 9223372036854775808) := by
  rw [show 2 ^ (min 1 64) = 2 from rfl]; omega
 rw [h2, Nat.mod_eq_of_lt (show b < 18446744073709551616 by omega), ← Nat.two_pow_add_eq_or_of_lt h1]
 omega

theorem C6u (a : Nat) : Meets Tryz.prog E0 B07 [WV a, U (0 : Nat)] [] (.tp [WV 0, U (0 : Nat), I 1]) [] := by
 refine X6 C2e ?_
 simp only [go_sem, B54]
 refine wE ?_
 simp only [go_sem, B5a]

theorem D93 {a d j qq r : Nat} (hA : a / 2 ^ (j + 1) = qq * d + r) : a / 2 ^ j = 2 * (qq * d) + 2 * r + a / 2 ^ j % 2 := by
 have : a / 2 ^ (j + 1) = a / 2 ^ j / 2 := by rw [Nat.pow_succ, Nat.div_div_eq_div_mul]
 omega

theorem E3q {a d k qq r : Nat} (hd : 0 < d) (hA : a / 2 ^ k = qq * d + r) : qq * 2 ^ k ≤ a := by
 have h1 : qq ≤ a / 2 ^ k := by rw [hA]; exact Nat.le_trans (Nat.le_mul_of_pos_right qq hd) (Nat.le_add_right _ _)
 exact Nat.le_trans (Nat.mul_le_mul_right _ h1) (Nat.div_mul_le_self _ _)

theorem D0u (a d : Nat) (ha : a < 340282366920938463463374607431768211456) (hd : d < 18446744073709551616) (h0 : 0 < d) : Meets Tryz.prog E0 B07 [WV a, U d] [] (.tp [WV (a / d), U (a % d : Nat), I 0]) [] := by
 refine X6 C2e ?_
 have hd0 : decide (d = 0) = false := by simp; omega
 simp only [go_sem, B54, hd0]
 refine C8 (fun s : Nat × Nat × Nat => s.1) (fun s => s.1 ≤ 128 ∧ a / 2 ^ s.1 = s.2.1 * d + s.2.2 ∧ s.2.2 < d)
  (fun s => [(0, .undef), (1, U d), (2, .ptr 100 0), (4, .ptr 101 0), (5, U (0 : Nat)), (6, I 0), (7, .ptr 110 0), (8, U s.2.2), (9, I ((s.1 : Int) - 1))])
  (fun s => [(110, .box [U (s.2.1 * 2 ^ s.1 / 18446744073709551616 : Nat), U (s.2.1 * 2 ^ s.1 % 18446744073709551616 : Nat)]), (101, .box [U (0 : Nat), U (0 : Nat)]), (100, .box [U (a / 18446744073709551616 : Nat), U (a % 18446744073709551616 : Nat)])])
  (128, 0, 0) ⟨by decide, by simp only [Nat.zero_mul, Nat.zero_add]; exact Nat.div_eq_of_lt ha, h0⟩ ?_ ?_
 ·exact sR0
 ·rintro ⟨k, qq, r⟩ ⟨hk, hA, hr⟩
  simp only at hk hA hr
  simp only [go_sem]
  refine G3 rfl (fun h => ?_) (fun h => ?_)
  ·simp at h
   obtain ⟨j, rfl⟩ : ∃ j, k = j + 1 := ⟨k - 1, by omega⟩
   have e1 : ((j + 1 : Nat) : Int) - 1 = (j : Int) := by omega
   have e2 : IntKind.i64.wrap ((j : Int) - 1) = (j : Int) - 1 := A5 (by omega) (by omega)
   have hb := D3z a j
   have hstep := D93 hA
   have hq := E3q h0 hA
   simp only [go_sem, e1]
   refine A6 (B4o a j (by omega)) ?_
   simp only [go_sem, E25 hb]
   generalize a / 2 ^ j % 2 = b at *
   have hq0 : qq * 2 ^ (j + 1) / 2 ^ j % 2 = 0 := by
    rw [Nat.pow_succ, Nat.mul_comm (2 ^ j), ← Nat.mul_assoc, Nat.mul_div_cancel _ (Nat.two_pow_pos j)]; omega
   have hqn : qq * 2 ^ (j + 1) + 2 ^ j = (2 * qq + 1) * 2 ^ j := by
    rw [Nat.add_mul, Nat.one_mul, Nat.pow_succ, Nat.mul_comm (2 ^ j), ← Nat.mul_assoc, Nat.mul_comm 2 qq]
   have hqm : qq * 2 ^ (j + 1) = (2 * qq) * 2 ^ j := by
    rw [Nat.pow_succ, Nat.mul_comm (2 ^ j), ← Nat.mul_assoc, Nat.mul_comm 2 qq]
   have hm1 : (2 * qq + 1) * d = 2 * (qq * d) + d := by rw [Nat.add_mul, Nat.one_mul, Nat.mul_assoc]
   have hm2 : (2 * qq) * d = 2 * (qq * d) := by rw [Nat.mul_assoc]
   have h63 : r / 2 ^ (min 63 64) = r / 9223372036854775808 := by rw [show 2 ^ (min 63 64) = 9223372036854775808 from rfl]
   cases ht : decide (r / 9223372036854775808 = 1)
   ·simp at ht
    have ht' : decide (r / 9223372036854775808 = 1) = false := by simpa using ht
    simp only [go_sem, h63, ht']
    refine G3 rfl (fun h1 => ?_) (fun h1 => ?_)
    ·simp at h1
     simp only [go_sem]
     refine A6 (B3e (qq * 2 ^ (j + 1)) j (by omega) (by omega) hq0) ?_
     simp only [go_sem, e1, e2]
     refine C3 (j, 2 * qq + 1, 2 * r + b - d) (by simp only; omega) ⟨by simp only; omega, by simp only; rw [hm1]; omega, by simp only; omega⟩ ?_
     rw [hqn, show (2 * r % 18446744073709551616 + b + 18446744073709551616 - d % 18446744073709551616) % 18446744073709551616 = 2 * r + b - d by omega]
     exact sR0
    ·simp at h1
     simp only [go_sem, e1, e2]
     refine C3 (j, 2 * qq, 2 * r + b) (by simp only; omega) ⟨by simp only; omega, by simp only; rw [hm2]; omega, by simp only; omega⟩ ?_
     rw [hqm, show 2 * r % 18446744073709551616 + b = 2 * r + b by omega]
     exact sR0
   ·simp at ht
    have ht' : decide (r / 9223372036854775808 = 1) = true := by simpa using ht
    simp only [go_sem, h63, ht']
    refine A6 (B3e (qq * 2 ^ (j + 1)) j (by omega) (by omega) hq0) ?_
    simp only [go_sem, e1, e2]
    refine C3 (j, 2 * qq + 1, 2 * r + b - d) (by simp only; omega) ⟨by simp only; omega, by simp only; rw [hm1]; omega, by simp only; omega⟩ ?_
    rw [hqn, show (2 * r % 18446744073709551616 + b + 18446744073709551616 - d % 18446744073709551616) % 18446744073709551616 = 2 * r + b - d by omega]
    exact sR0
  ·simp at h
   simp only [go_sem]
   refine wE ?_
   simp only [go_sem, B5a]
   have e : k = 0 := by omega
   subst e
   simp only [Nat.pow_zero, Nat.div_one, Nat.mul_one] at hA ⊢
   have e1 : a / d = qq := by rw [hA, Nat.mul_comm, Nat.mul_add_div h0, Nat.div_eq_of_lt hr, Nat.add_zero]
   have e2 : a % d = r := by rw [hA, Nat.mul_comm, Nat.mul_add_mod, Nat.mod_eq_of_lt hr]
   rw [e1, e2]

/-- A quotient, to the nearest number. -/
def rnd (a d : Nat) : Nat := if d ≤ 2 * (a % d) then a / d + 1 else a / d
def A3m (a d : Nat) : Nat := if d = 0 then 0 else if 18446744073709551616 ≤ rnd a d then 0 else rnd a d
def A0f (a d : Nat) : Int := if d = 0 then 1 else if 18446744073709551616 ≤ rnd a d then 3 else 0

theorem B73 (a d : Nat) (ha : a < 340282366920938463463374607431768211456) (hd : d < 18446744073709551616) : Meets Tryz.prog E0 B0z [WV a, U d] [] (.tp [U (A3m a d), I (A0f a d)]) [] := by
 refine X6 C72 ?_
 by_cases h0 : d = 0
 ·subst h0
  simp only [go_sem, B1n]
  refine A6 (C6u a) ?_
  simp only [go_sem, show decide ((1 : Int) = 0) = false from rfl]
  refine wE ?_
  simp only [go_sem, A23]
  simp [A3m, A0f]
 ·have hr : a % d < d := Nat.mod_lt _ (by omega)
  have hq : a / d ≤ a := Nat.div_le_self _ _
  have hsub : (d + 18446744073709551616 - a % d % 18446744073709551616) % 18446744073709551616 = d - a % d := by omega
  have hz : decide ((0 : Int) = 0) = true := rfl
  simp only [go_sem, B1n]
  refine A6 (D0u a d ha hd (by omega)) ?_
  simp only [go_sem, hz, hsub]
  refine G3 rfl (fun h => ?_) (fun h => ?_)
  ·simp at h
   have hr1 : rnd a d = a / d + 1 := if_pos (by omega)
   have hq2 : a / d + 1 < 340282366920938463463374607431768211456 := by
    have hd2 : 2 ≤ d := by omega
    have : a / d ≤ a / 2 := Nat.div_le_div_left hd2 (by decide)
    omega
   simp only [go_sem]
   refine A6 (C2c (a / d) 1 (by omega) (by omega)) ?_
   simp only [go_sem, Nat.mod_eq_of_lt hq2, ← hr1]
   refine G3 rfl (fun h1 => ?_) (fun h1 => ?_)
   ·simp at h1
    simp only [go_sem]
    refine wE ?_
    simp only [go_sem, A23]
    have h2 : 18446744073709551616 ≤ rnd a d := by omega
    simp [A3m, A0f, h0, h2]
   ·simp at h1
    simp only [go_sem]
    refine wE ?_
    simp only [go_sem, A23]
    have h2 : ¬ 18446744073709551616 ≤ rnd a d := by omega
    simp only [A3m, A0f, if_neg h0, if_neg h2]
    simp only [Option.some.injEq, AV.tp.injEq, AV.ag.injEq, List.cons.injEq, AV.t.injEq, T.v.injEq, T.sl.injEq, Value.int.injEq, Value.bool.injEq, Value.string.injEq, decide_eq_decide, true_and, and_true]
    omega
  ·simp at h
   have hr1 : rnd a d = a / d := if_neg (by omega)
   simp only [go_sem, ← hr1]
   refine G3 rfl (fun h1 => ?_) (fun h1 => ?_)
   ·simp at h1
    simp only [go_sem]
    refine wE ?_
    simp only [go_sem, A23]
    have h2 : 18446744073709551616 ≤ rnd a d := by omega
    simp [A3m, A0f, h0, h2]
   ·simp at h1
    simp only [go_sem]
    refine wE ?_
    simp only [go_sem, A23]
    have h2 : ¬ 18446744073709551616 ≤ rnd a d := by omega
    simp only [A3m, A0f, if_neg h0, if_neg h2]
    simp only [Option.some.injEq, AV.tp.injEq, AV.ag.injEq, List.cons.injEq, AV.t.injEq, T.v.injEq, T.sl.injEq, Value.int.injEq, Value.bool.injEq, Value.string.injEq, decide_eq_decide, true_and, and_true]
    omega

/-- L is the number of bits of x. -/
def B9i (x L : Nat) : Prop := x < 2 ^ L ∧ (L = 0 ∨ 2 ^ (L - 1) ≤ x)

theorem B5g {x L M : Nat} (h : B9i x L) (k : B9i x M) : L = M := by
 have key : ∀ {L M : Nat}, B9i x L → B9i x M → L ≤ M := by
  intro L M h k
  rcases h.2 with h2 | h2
  ·omega
  ·have h3 : 2 ^ (L - 1) < 2 ^ M := Nat.lt_of_le_of_lt h2 k.1
   have := (Nat.pow_lt_pow_iff_right (show 1 < 2 by decide)).1 h3
   omega
 exact Nat.le_antisymm (key h k) (key k h)

theorem D3q {x n k : Nat} (h : B9i (x / 2 ^ n) k) (hk : 0 < k) : B9i x (n + k) := by
 refine ⟨?_, Or.inr ?_⟩
 ·have := (Nat.div_lt_iff_lt_mul (Nat.two_pow_pos n)).1 h.1
  rwa [Nat.pow_add, Nat.mul_comm]
 ·have h2 := h.2.resolve_left (by omega)
  have := (Nat.le_div_iff_mul_le (Nat.two_pow_pos n)).1 h2
  rwa [← Nat.pow_add, show k - 1 + n = n + k - 1 by omega] at this

def bl8 (y : Nat) : Nat := if y < 1 then 0 else if y < 2 then 1 else if y < 4 then 2 else if y < 8 then 3 else if y < 16 then 4 else if y < 32 then 5 else if y < 64 then 6 else if y < 128 then 7 else 8

theorem U6 {y : Nat} (h : y < 256) : B9i y (bl8 y) ∧ bl8 y ≤ 8 ∧ (0 < y → 0 < bl8 y) := by
 unfold bl8 B9i
 repeat' split
 all_goals (simp; try omega)

theorem A85 : ∀ y, y < 256 → ∃ b, A51[y]? = some b ∧ b.toNat = bl8 y := by
 have h : ∀ y, y < 256 → (A51[y]?).map (fun b => b.toNat) = some (bl8 y) := by decide +kernel
 intro y hy
 have := h y hy
 cases hb : A51[y]? with
 | none => rw [hb] at this; cases this
 | some b => rw [hb] at this; exact ⟨b, rfl, Option.some.inj this⟩

theorem A94 {x L n : Nat} (hL : B9i x L) (hy : x / 2 ^ n < 256) (h0 : n = 0 ∨ 0 < x / 2 ^ n) : n + bl8 (x / 2 ^ n) = L := by
 obtain ⟨h1, h2, h3⟩ := U6 hy
 rcases h0 with rfl | h0
 ·simp only [Nat.pow_zero, Nat.div_one, Nat.zero_add] at h1 ⊢
  exact B5g h1 hL
 ·exact B5g (D3q h1 (h3 h0)) hL

set_option maxRecDepth 20000 in
theorem C9k (x L : Nat) (hx : x < 18446744073709551616) (hL : B9i x L) : Meets Tryz.prog E0 B2s [U x] [] (I L) [] := by
 refine X6 C9t ?_
 have p32 : 2 ^ (min 32 64) = 4294967296 := rfl
 have p16 : 2 ^ (min 16 64) = 65536 := rfl
 have p8 : 2 ^ (min 8 64) = 256 := rfl
 have q1 : IntKind.i64.wrap (0 + 16) = 16 := rfl
 have q2 : IntKind.i64.wrap (32 + 16) = 48 := rfl
 have q3 : IntKind.i64.wrap (0 + 8) = 8 := rfl
 have q4 : IntKind.i64.wrap (16 + 8) = 24 := rfl
 have q5 : IntKind.i64.wrap (32 + 8) = 40 := rfl
 have q6 : IntKind.i64.wrap (48 + 8) = 56 := rfl
 simp only [go_sem, B8u, p32]
 refine G3 rfl (fun h1 => ?_) (fun h1 => ?_)
 ·simp at h1
  simp only [go_sem, p32, p16, p8, q1, q2, q3, q4, q5, q6]
  refine G3 rfl (fun h2 => ?_) (fun h2 => ?_)
  ·simp at h2
   simp only [go_sem, p32, p16, p8, q1, q2, q3, q4, q5, q6]
   refine G3 rfl (fun h3 => ?_) (fun h3 => ?_)
   ·simp at h3
    have hy : x / 2 ^ 56 < 256 := by omega
    have hxy : x / 4294967296 / 65536 / 256 = x / 2 ^ 56 := by omega
    obtain ⟨b, hb, hbn⟩ := A85 _ hy
    have e1 : IntKind.u8.wrap ((x / 2 ^ 56 : Nat) : Int) = ((x / 2 ^ 56 : Nat) : Int) := by rw [A6c]; omega
    have e2 : IntKind.i64.wrap ((bl8 (x / 2 ^ 56) : Nat) : Int) = ((bl8 (x / 2 ^ 56) : Nat) : Int) := by
     have := (U6 hy).2.1
     rw [A5 (by omega) (by omega)]
    have e3 := A94 (n := 56) hL hy (by omega)
    simp only [go_sem, p32, p16, p8, q1, q2, q3, q4, q5, q6, hxy, e1, hb, hbn, e2, Int.toNat_natCast, Int.natCast_nonneg]
    refine wE ?_
    simp only [go_sem, Y4]
    have := (U6 hy).2.1
    rw [A5 (by omega) (by omega)]
    simp only [Option.some.injEq, AV.tp.injEq, AV.ag.injEq, List.cons.injEq, AV.t.injEq, T.v.injEq, T.sl.injEq, Value.int.injEq, Value.bool.injEq, Value.string.injEq, decide_eq_decide, true_and, and_true]
    omega
   ·simp at h3
    have hy : x / 2 ^ 48 < 256 := by omega
    have hxy : x / 4294967296 / 65536 = x / 2 ^ 48 := by omega
    obtain ⟨b, hb, hbn⟩ := A85 _ hy
    have e1 : IntKind.u8.wrap ((x / 2 ^ 48 : Nat) : Int) = ((x / 2 ^ 48 : Nat) : Int) := by rw [A6c]; omega
    have e2 : IntKind.i64.wrap ((bl8 (x / 2 ^ 48) : Nat) : Int) = ((bl8 (x / 2 ^ 48) : Nat) : Int) := by
     have := (U6 hy).2.1
     rw [A5 (by omega) (by omega)]
    have e3 := A94 (n := 48) hL hy (by omega)
    simp only [go_sem, p32, p16, p8, q1, q2, q3, q4, q5, q6, hxy, e1, hb, hbn, e2, Int.toNat_natCast, Int.natCast_nonneg]
    refine wE ?_
    simp only [go_sem, Y4]
    have := (U6 hy).2.1
    rw [A5 (by omega) (by omega)]
    simp only [Option.some.injEq, AV.tp.injEq, AV.ag.injEq, List.cons.injEq, AV.t.injEq, T.v.injEq, T.sl.injEq, Value.int.injEq, Value.bool.injEq, Value.string.injEq, decide_eq_decide, true_and, and_true]
    omega
  ·simp at h2
   simp only [go_sem, p32, p16, p8, q1, q2, q3, q4, q5, q6]
   refine G3 rfl (fun h3 => ?_) (fun h3 => ?_)
   ·simp at h3
    have hy : x / 2 ^ 40 < 256 := by omega
    have hxy : x / 4294967296 / 256 = x / 2 ^ 40 := by omega
    obtain ⟨b, hb, hbn⟩ := A85 _ hy
    have e1 : IntKind.u8.wrap ((x / 2 ^ 40 : Nat) : Int) = ((x / 2 ^ 40 : Nat) : Int) := by rw [A6c]; omega
    have e2 : IntKind.i64.wrap ((bl8 (x / 2 ^ 40) : Nat) : Int) = ((bl8 (x / 2 ^ 40) : Nat) : Int) := by
     have := (U6 hy).2.1
     rw [A5 (by omega) (by omega)]
    have e3 := A94 (n := 40) hL hy (by omega)
    simp only [go_sem, p32, p16, p8, q1, q2, q3, q4, q5, q6, hxy, e1, hb, hbn, e2, Int.toNat_natCast, Int.natCast_nonneg]
    refine wE ?_
    simp only [go_sem, Y4]
    have := (U6 hy).2.1
    rw [A5 (by omega) (by omega)]
    simp only [Option.some.injEq, AV.tp.injEq, AV.ag.injEq, List.cons.injEq, AV.t.injEq, T.v.injEq, T.sl.injEq, Value.int.injEq, Value.bool.injEq, Value.string.injEq, decide_eq_decide, true_and, and_true]
    omega
   ·simp at h3
    have hy : x / 2 ^ 32 < 256 := by omega
    have hxy : x / 4294967296 = x / 2 ^ 32 := by omega
    obtain ⟨b, hb, hbn⟩ := A85 _ hy
    have e1 : IntKind.u8.wrap ((x / 2 ^ 32 : Nat) : Int) = ((x / 2 ^ 32 : Nat) : Int) := by rw [A6c]; omega
    have e2 : IntKind.i64.wrap ((bl8 (x / 2 ^ 32) : Nat) : Int) = ((bl8 (x / 2 ^ 32) : Nat) : Int) := by
     have := (U6 hy).2.1
     rw [A5 (by omega) (by omega)]
    have e3 := A94 (n := 32) hL hy (by omega)
    simp only [go_sem, p32, p16, p8, q1, q2, q3, q4, q5, q6, hxy, e1, hb, hbn, e2, Int.toNat_natCast, Int.natCast_nonneg]
    refine wE ?_
    simp only [go_sem, Y4]
    have := (U6 hy).2.1
    rw [A5 (by omega) (by omega)]
    simp only [Option.some.injEq, AV.tp.injEq, AV.ag.injEq, List.cons.injEq, AV.t.injEq, T.v.injEq, T.sl.injEq, Value.int.injEq, Value.bool.injEq, Value.string.injEq, decide_eq_decide, true_and, and_true]
    omega
 ·simp at h1
  simp only [go_sem, p32, p16, p8, q1, q2, q3, q4, q5, q6]
  refine G3 rfl (fun h2 => ?_) (fun h2 => ?_)
  ·simp at h2
   simp only [go_sem, p32, p16, p8, q1, q2, q3, q4, q5, q6]
   refine G3 rfl (fun h3 => ?_) (fun h3 => ?_)
   ·simp at h3
    have hy : x / 2 ^ 24 < 256 := by omega
    have hxy : x / 65536 / 256 = x / 2 ^ 24 := by omega
    obtain ⟨b, hb, hbn⟩ := A85 _ hy
    have e1 : IntKind.u8.wrap ((x / 2 ^ 24 : Nat) : Int) = ((x / 2 ^ 24 : Nat) : Int) := by rw [A6c]; omega
    have e2 : IntKind.i64.wrap ((bl8 (x / 2 ^ 24) : Nat) : Int) = ((bl8 (x / 2 ^ 24) : Nat) : Int) := by
     have := (U6 hy).2.1
     rw [A5 (by omega) (by omega)]
    have e3 := A94 (n := 24) hL hy (by omega)
    simp only [go_sem, p32, p16, p8, q1, q2, q3, q4, q5, q6, hxy, e1, hb, hbn, e2, Int.toNat_natCast, Int.natCast_nonneg]
    refine wE ?_
    simp only [go_sem, Y4]
    have := (U6 hy).2.1
    rw [A5 (by omega) (by omega)]
    simp only [Option.some.injEq, AV.tp.injEq, AV.ag.injEq, List.cons.injEq, AV.t.injEq, T.v.injEq, T.sl.injEq, Value.int.injEq, Value.bool.injEq, Value.string.injEq, decide_eq_decide, true_and, and_true]
    omega
   ·simp at h3
    have hy : x / 2 ^ 16 < 256 := by omega
    have hxy : x / 65536 = x / 2 ^ 16 := by omega
    obtain ⟨b, hb, hbn⟩ := A85 _ hy
    have e1 : IntKind.u8.wrap ((x / 2 ^ 16 : Nat) : Int) = ((x / 2 ^ 16 : Nat) : Int) := by rw [A6c]; omega
    have e2 : IntKind.i64.wrap ((bl8 (x / 2 ^ 16) : Nat) : Int) = ((bl8 (x / 2 ^ 16) : Nat) : Int) := by
     have := (U6 hy).2.1
     rw [A5 (by omega) (by omega)]
    have e3 := A94 (n := 16) hL hy (by omega)
    simp only [go_sem, p32, p16, p8, q1, q2, q3, q4, q5, q6, hxy, e1, hb, hbn, e2, Int.toNat_natCast, Int.natCast_nonneg]
    refine wE ?_
    simp only [go_sem, Y4]
    have := (U6 hy).2.1
    rw [A5 (by omega) (by omega)]
    simp only [Option.some.injEq, AV.tp.injEq, AV.ag.injEq, List.cons.injEq, AV.t.injEq, T.v.injEq, T.sl.injEq, Value.int.injEq, Value.bool.injEq, Value.string.injEq, decide_eq_decide, true_and, and_true]
    omega
  ·simp at h2
   simp only [go_sem, p32, p16, p8, q1, q2, q3, q4, q5, q6]
   refine G3 rfl (fun h3 => ?_) (fun h3 => ?_)
   ·simp at h3
    have hy : x / 2 ^ 8 < 256 := by omega
    have hxy : x / 256 = x / 2 ^ 8 := by omega
    obtain ⟨b, hb, hbn⟩ := A85 _ hy
    have e1 : IntKind.u8.wrap ((x / 2 ^ 8 : Nat) : Int) = ((x / 2 ^ 8 : Nat) : Int) := by rw [A6c]; omega
    have e2 : IntKind.i64.wrap ((bl8 (x / 2 ^ 8) : Nat) : Int) = ((bl8 (x / 2 ^ 8) : Nat) : Int) := by
     have := (U6 hy).2.1
     rw [A5 (by omega) (by omega)]
    have e3 := A94 (n := 8) hL hy (by omega)
    simp only [go_sem, p32, p16, p8, q1, q2, q3, q4, q5, q6, hxy, e1, hb, hbn, e2, Int.toNat_natCast, Int.natCast_nonneg]
    refine wE ?_
    simp only [go_sem, Y4]
    have := (U6 hy).2.1
    rw [A5 (by omega) (by omega)]
    simp only [Option.some.injEq, AV.tp.injEq, AV.ag.injEq, List.cons.injEq, AV.t.injEq, T.v.injEq, T.sl.injEq, Value.int.injEq, Value.bool.injEq, Value.string.injEq, decide_eq_decide, true_and, and_true]
    omega
   ·simp at h3
    have hy : x < 256 := by omega
    have hxy : (x : Nat) = x := rfl
    obtain ⟨b, hb, hbn⟩ := A85 _ hy
    have e1 : IntKind.u8.wrap ((x : Nat) : Int) = ((x : Nat) : Int) := by rw [A6c]; omega
    have e2 : IntKind.i64.wrap ((bl8 (x) : Nat) : Int) = ((bl8 (x) : Nat) : Int) := by
     have := (U6 hy).2.1
     rw [A5 (by omega) (by omega)]
    have e3 : bl8 x = L := B5g (U6 hy).1 hL
    simp only [go_sem, p32, p16, p8, q1, q2, q3, q4, q5, q6, hxy, e1, hb, hbn, e2, Int.toNat_natCast, Int.natCast_nonneg]
    refine wE ?_
    simp only [go_sem, Y4]
    have := (U6 hy).2.1
    rw [A5 (by omega) (by omega)]
    simp only [Option.some.injEq, AV.tp.injEq, AV.ag.injEq, List.cons.injEq, AV.t.injEq, T.v.injEq, T.sl.injEq, Value.int.injEq, Value.bool.injEq, Value.string.injEq, decide_eq_decide, true_and, and_true]
    omega

theorem B4i (x L : Nat) (hx : x < 18446744073709551616) (hL : B9i x L) (h64 : L ≤ 64) : Meets Tryz.prog E0 A2a [U x] [] (I (64 - L : Nat)) [] := by
 refine X6 B4m ?_
 simp only [go_sem, A5l]
 refine A6 (C9k x L hx hL) ?_
 simp only [go_sem]
 refine wE ?_
 simp only [go_sem, A5k]
 rw [A5 (by omega) (by omega)]
 simp only [Option.some.injEq, AV.tp.injEq, AV.ag.injEq, List.cons.injEq, AV.t.injEq, T.v.injEq, T.sl.injEq, Value.int.injEq, Value.bool.injEq, Value.string.injEq, decide_eq_decide, true_and, and_true]
 omega

theorem E0l {x L m : Nat} (h : B9i x L) : L ≤ m ↔ x < 2 ^ m := by
 constructor
 ·intro hl
  exact Nat.lt_of_lt_of_le h.1 (Nat.pow_le_pow_right (by decide) hl)
 ·intro hx
  rcases h.2 with h2 | h2
  ·omega
  ·have := (Nat.pow_lt_pow_iff_right (show 1 < 2 by decide)).1 (Nat.lt_of_le_of_lt h2 hx)
   omega

theorem D1u (x : Nat) : ∃ L, B9i x L := by
 by_cases h : x = 0
 ·exact ⟨0, by subst h; simp [B9i]⟩
 ·exact ⟨x.log2 + 1, Nat.lt_log2_self, Or.inr (by simpa using Nat.log2_self_le h)⟩

theorem E1h {h t n : Nat} (hn : n ≤ 64) (ht : t < 2 ^ n) : (h * 2 ^ n % 18446744073709551616) % 18446744073709551616 ||| t % 18446744073709551616 = h * 2 ^ n % 18446744073709551616 + t := by
 have hPQ : 2 ^ n * 2 ^ (64 - n) = 18446744073709551616 := by rw [← Nat.pow_add, show n + (64 - n) = 64 by omega]
 have hle : 2 ^ n ≤ 18446744073709551616 := by rw [← hPQ]; exact Nat.le_mul_of_pos_right _ (Nat.two_pow_pos _)
 rw [Nat.mod_mod, Nat.mod_eq_of_lt (show t < 18446744073709551616 by omega), ← hPQ, Nat.mul_comm h, Nat.mul_mod_mul_left, ← Nat.two_pow_add_eq_or_of_lt ht]

/-- A guess at a digit: not below the true one. -/
structure Guess (u u1 y1 y0 q r : Nat) : Prop where
 e : u = q * y1 + r
 r : r < 4294967296
 up : (u * 4294967296 + u1) / (y1 * 4294967296 + y0) ≤ q
 le : q ≤ 4294967297

section
variable {u u1 y1 y0 q r : Nat}

theorem C62 (e : u = q * y1 + r) : u * 4294967296 + u1 + q * y0 = q * (y1 * 4294967296 + y0) + (4294967296 * r + u1) := by
 rw [e, Nat.add_mul, Nat.mul_add, Nat.mul_assoc]; omega

theorem C46 (hu : u < y1 * 4294967296 + y0) (h1 : u1 < 4294967296) : (u * 4294967296 + u1) / (y1 * 4294967296 + y0) < 4294967296 := by
 rw [Nat.div_lt_iff_lt_mul (by omega)]
 omega

theorem C2g (hu : u < y1 * 4294967296 + y0) (h1 : u1 < 4294967296) (hy0 : y0 < 4294967296) (hy1 : y1 < 4294967296) (hn : 4294967296 ≤ 2 * y1) : Guess u u1 y1 y0 (u / y1) (u % y1) where
 e := (Nat.div_add_mod' u y1).symm
 r := Nat.lt_trans (Nat.mod_lt _ (by omega)) hy1
 up := by
  apply Decidable.byContradiction
  intro hc
  have hQ : (u / y1 + 1) * (y1 * 4294967296 + y0) ≤ u * 4294967296 + u1 := (Nat.le_div_iff_mul_le (by omega)).1 (by omega)
  have h2 := Nat.lt_div_mul_add (a := u) (show 0 < y1 by omega)
  rw [Nat.add_mul, Nat.mul_add, ← Nat.mul_assoc, Nat.one_mul] at hQ
  have h3 : 0 ≤ u / y1 * y0 := Nat.zero_le _
  omega
 le := by
  have : u / y1 < 4294967298 := by
   rw [Nat.div_lt_iff_lt_mul (by omega)]
   omega
  omega

theorem B3l (hu : u < y1 * 4294967296 + y0) (h1 : u1 < 4294967296) (g : Guess u u1 y1 y0 q r) (h : 4294967296 ≤ q ∨ 4294967296 * r + u1 < q * y0) : (u * 4294967296 + u1) / (y1 * 4294967296 + y0) ≤ q - 1 ∧ 0 < q ∧ u = (q - 1) * y1 + (r + y1) := by
 have hd := C46 hu h1
 have hup := g.up
 have hlt : (u * 4294967296 + u1) / (y1 * 4294967296 + y0) < q := by
  rcases h with h | h
  ·omega
  ·rw [Nat.div_lt_iff_lt_mul (by omega)]
   have := C62 (u1 := u1) (y0 := y0) g.e
   omega
 clear hup hd
 have hq : 0 < q := by
  rcases Nat.eq_zero_or_pos q with rfl | h'
  ·exact absurd hlt (Nat.not_lt_zero _)
  ·exact h'
 refine ⟨Nat.le_sub_one_of_lt hlt, hq, ?_⟩
 clear hlt
 obtain ⟨k, rfl⟩ : ∃ k, q = k + 1 := ⟨q - 1, by omega⟩
 have := g.e
 rw [Nat.add_mul, Nat.one_mul] at this
 simp only [Nat.add_sub_cancel]
 omega

theorem C5a (hy : 0 < y1 * 4294967296 + y0) (g : Guess u u1 y1 y0 q r) (h : q * y0 ≤ 4294967296 * r + u1) : q = (u * 4294967296 + u1) / (y1 * 4294967296 + y0) := by
 refine Nat.le_antisymm ?_ g.up
 rw [Nat.le_div_iff_mul_le hy]
 have := C62 (u1 := u1) (y0 := y0) g.e
 omega

theorem B00 (hy : 0 < y1 * 4294967296 + y0) (hy0 : y0 < 4294967296) (e : u = q * y1 + r) (hup : (u * 4294967296 + u1) / (y1 * 4294967296 + y0) ≤ q) (hq : q ≤ 4294967296) (hr : 4294967296 ≤ r) : q = (u * 4294967296 + u1) / (y1 * 4294967296 + y0) := by
 refine Nat.le_antisymm ?_ hup
 rw [Nat.le_div_iff_mul_le hy]
 have h1 := C62 (u1 := u1) (y0 := y0) e
 have h2 := Nat.mul_le_mul hq (Nat.le_of_lt hy0)
 omega
end

/-- The two digits together. -/
theorem D2w {n un0 Y : Nat} (hY : 0 < Y) : (n * 4294967296 + un0) / Y = n / Y * 4294967296 + (n % Y * 4294967296 + un0) / Y ∧
  (n * 4294967296 + un0) % Y = (n % Y * 4294967296 + un0) % Y := by
 have e : n * 4294967296 + un0 = Y * (n / Y * 4294967296) + (n % Y * 4294967296 + un0) := by
  have := Nat.div_add_mod n Y
  rw [← Nat.mul_assoc, ← Nat.add_assoc, ← Nat.add_mul, this]
 rw [e, Nat.mul_add_div hY, Nat.mul_add_mod]
 exact ⟨rfl, rfl⟩

theorem C8t (Y s u0 Q1 n Q0 a b : Nat) (x1 x2 x3 x4 x5 x6 x7 x8 x9 x10 x11 x12 x13 x14 x15 x16 x17 : AV) (ea : (Q1 * 4294967296 % 18446744073709551616 + Q0) % 18446744073709551616 = a)
  (eb : ((n * 4294967296 % 18446744073709551616 + u0) % 18446744073709551616 + 18446744073709551616 - Q0 * Y % 18446744073709551616 % 18446744073709551616) % 18446744073709551616 / 2 ^ (min s 64) = b) :
  W Tryz.prog E0 (A4 []) (A7q (A4 []) A3g (.tp [U a, U b]) []) A7h []
   [(0, x1), (1, x2), (2, U Y), (6, x3), (7, x4), (8, U s), (9, x5), (10, x6), (11, x7), (12, x8), (13, x9), (14, U u0), (15, U Q1), (16, x10), (17, U n), (18, U Q0), (20, x11), (24, x12), (27, x13), (78, x14), (85, x15), (113, x16), (120, x17)] [] := by
 simp only [go_sem, A7h, ea, eb]
 refine wE ?_
 simp only [go_sem, A3g]

theorem D9v (Y s y1 y0 u u1 u0 Q1 a b : Nat) (x1 x2 x3 x4 x8 x10 x11 x12 x13 x14 x15 x16 x17 x18 x19 : AV) (hY : Y = y1 * 4294967296 + y0) (hYM : Y < 18446744073709551616) (hy1 : y1 < 4294967296) (hy0 : y0 < 4294967296) (hn : 4294967296 ≤ 2 * y1) (hu0 : u0 < 4294967296)
  (hQ1 : Q1 < 4294967296) (n : Nat) (en : ((u * 4294967296 % 18446744073709551616 + u1) % 18446744073709551616 + 18446744073709551616 - Q1 * Y % 18446744073709551616 % 18446744073709551616) % 18446744073709551616 = n) (hnY : n < Y)
  (ea : Q1 * 4294967296 + (n * 4294967296 + u0) / Y = a) (eb : (n * 4294967296 + u0) % Y / 2 ^ (min s 64) = b) :
  W Tryz.prog E0 (A4 []) (A7q (A4 []) A3g (.tp [U a, U b]) []) A41 []
   [(0, x1), (1, x2), (2, U Y), (6, x3), (7, x4), (8, U s), (9, U y1), (10, U y0), (11, U u), (12, x8), (13, U u1), (14, U u0), (15, U Q1), (16, x10), (17, x18), (18, x19), (20, x11), (24, x12), (27, x13), (78, x14), (85, x15), (113, x16), (120, x17)] [] := by
 have hz : ¬ y1 = 0 := by omega
 have hd : n / y1 % 18446744073709551616 = n / y1 := Nat.mod_eq_of_lt (Nat.lt_of_le_of_lt (Nat.div_le_self _ _) (by omega))
 have hr : (n + 18446744073709551616 - n / y1 * y1 % 18446744073709551616 % 18446744073709551616) % 18446744073709551616 = n % y1 := by
  have := Nat.div_add_mod' n y1
  generalize n / y1 * y1 = m at *
  generalize n % y1 = r at *
  omega
 have hnY' : n < y1 * 4294967296 + y0 := by omega
 have hg := C2g (u := n) (u1 := u0) hnY' hu0 hy0 hy1 hn
 have hdig := C46 hnY' hu0
 have hYp : 0 < y1 * 4294967296 + y0 := by omega
 -- the end, whatever the loop leaves
 have fin : ∀ q : Nat, q = (n * 4294967296 + u0) / (y1 * 4294967296 + y0) → (Q1 * 4294967296 % 18446744073709551616 + q) % 18446744073709551616 = a ∧ ((n * 4294967296 % 18446744073709551616 + u0) % 18446744073709551616 + 18446744073709551616 - q * Y % 18446744073709551616 % 18446744073709551616) % 18446744073709551616 / 2 ^ (min s 64) = b := by
  intro q hq
  rw [← hY] at hq hdig
  rw [← hq] at ea hdig
  refine ⟨by omega, ?_⟩
  rw [← eb]
  apply congrArg (· / 2 ^ (min s 64))
  have h1 := Nat.div_add_mod' (n * 4294967296 + u0) Y
  have h2 : (n * 4294967296 + u0) % Y < Y := Nat.mod_lt _ (by omega)
  rw [← hq] at h1
  obtain ⟨m, hm⟩ : ∃ m, (n * 4294967296 + u0) % Y = m := ⟨_, rfl⟩
  obtain ⟨w, hw⟩ : ∃ w, q * Y = w := ⟨_, rfl⟩
  rw [hm] at h1 h2 ⊢
  rw [hw] at h1 ⊢
  clear hdig hd hr hg ea eb en hq
  omega
 simp only [go_sem, A41, en, C06 hz, hd, hr]
 refine C8 (fun x : Nat × Nat => x.1) (fun x => Guess n u0 y1 y0 x.1 x.2)
  (fun x => [(2, U Y), (8, U s), (9, U y1), (10, U y0), (14, U u0), (15, U Q1), (16, U x.2), (17, U n), (18, U x.1)])
  (fun x => []) (n / y1, n % y1) hg sR0 ?_
 rintro ⟨q, r⟩ g
 simp only at g
 have gr := g.r
 have gl := g.le
 have e0 : 0 < q → (q + 18446744073709551616 - 1 % 18446744073709551616) % 18446744073709551616 = q - 1 := by omega
 have e2 : (r + y1) % 18446744073709551616 = r + y1 := by omega
 cases hq : decide (4294967296 ≤ q)
 ·have hq' : q < 4294967296 := by simpa using hq
  have e3 : q * y0 % 18446744073709551616 = q * y0 := by
   have := Nat.mul_le_mul (show q ≤ 4294967295 by omega) (show y0 ≤ 4294967295 by omega)
   exact Nat.mod_eq_of_lt (by omega)
  have e4 : (4294967296 * r % 18446744073709551616 + u0) % 18446744073709551616 = 4294967296 * r + u0 := by omega
  simp only [go_sem, A78, hq, e3, e4]
  refine G3 rfl (fun h => ?_) (fun h => ?_)
  ·have hnext := B3l hnY' hu0 g (Or.inr (by simpa using h))
   have e1 := e0 hnext.2.1
   simp only [go_sem, e1, e2]
   refine G3 rfl (fun h5 => ?_) (fun h5 => ?_)
   ·simp only [go_sem]
    have hb := B00 hYp hy0 hnext.2.2 hnext.1 (by omega) (by simpa using h5)
    exact C8t _ _ _ _ _ _ _ _ _ _ _ _ _ _ _ _ _ _ _ _ _ _ _ _ _ (fin _ hb).1 (fin _ hb).2
   ·simp only [go_sem]
    refine C3 (q - 1, r + y1) (by simp only; omega) ⟨hnext.2.2, by simpa using h5, hnext.1, by simp only; omega⟩ sR0
  ·simp only [go_sem]
   have hb := C5a hYp g (by simpa using h)
   exact C8t _ _ _ _ _ _ _ _ _ _ _ _ _ _ _ _ _ _ _ _ _ _ _ _ _ (fin _ hb).1 (fin _ hb).2
 ·have hnext := B3l hnY' hu0 g (Or.inl (by simpa using hq))
  have e1 := e0 hnext.2.1
  simp only [go_sem, A78, hq, e1, e2]
  refine G3 rfl (fun h5 => ?_) (fun h5 => ?_)
  ·simp only [go_sem]
   have hb := B00 hYp hy0 hnext.2.2 hnext.1 (by omega) (by simpa using h5)
   exact C8t _ _ _ _ _ _ _ _ _ _ _ _ _ _ _ _ _ _ _ _ _ _ _ _ _ (fin _ hb).1 (fin _ hb).2
  ·simp only [go_sem]
   refine C3 (q - 1, r + y1) (by simp only; omega) ⟨hnext.2.2, by simpa using h5, hnext.1, by simp only; omega⟩ sR0

theorem C48 (lo y : Nat) (hlo : lo < 18446744073709551616) (hy : y < 18446744073709551616) (h0 : 0 < y) : Meets Tryz.prog E0 A81 [U (0 : Nat), U lo, U y] [] (.tp [U (lo / y : Nat), U (lo % y : Nat)]) [] := by
 refine X6 B9y ?_
 have hz : ¬ y = 0 := by omega
 have h1 : decide (y = 0) = false := by simpa using hz
 have h2 : decide (y ≤ 0) = false := by simpa using hz
 have h3 : decide ((0 : Nat) = 0) = true := rfl
 have hd : lo / y % 18446744073709551616 = lo / y := Nat.mod_eq_of_lt (Nat.lt_of_le_of_lt (Nat.div_le_self _ _) hlo)
 simp only [go_sem, B3p, h1, h2, h3, C06 hz, C8f hz, hd]
 refine wE ?_
 simp only [go_sem, A3g]

theorem C8v (hi lo y : Nat) (hlo : lo < 18446744073709551616) (hy : y < 18446744073709551616) (hhi : hi < y) : Meets Tryz.prog E0 A81 [U hi, U lo, U y] [] (.tp [U ((hi * 18446744073709551616 + lo) / y : Nat), U ((hi * 18446744073709551616 + lo) % y : Nat)]) [] := by
 by_cases h0 : hi = 0
 ·subst h0
  rw [Nat.zero_mul, Nat.zero_add]
  exact C48 lo y hlo hy (by omega)
 refine X6 B9y ?_
 have h1 : decide (y = 0) = false := by simp; omega
 have h2 : decide (y ≤ hi) = false := by simp; omega
 have h3 : decide (hi = 0) = false := by simpa using h0
 obtain ⟨L, hL⟩ := D1u y
 have hL64 : L ≤ 64 := (E0l hL).2 hy
 obtain ⟨s, hs⟩ : ∃ s, s = 64 - L := ⟨_, rfl⟩
 have es : IntKind.u64.wrap ((64 - L : Nat) : Int) = (s : Int) := by rw [A0t]; omega
 have hL0 : L ≠ 0 := by
  intro e; subst e
  have := hL.1
  simp at this
  omega
 have hPQ : 2 ^ s * 2 ^ (64 - s) = 18446744073709551616 := by rw [← Nat.pow_add, show s + (64 - s) = 64 by omega]
 have hp := Nat.two_pow_pos s
 -- the divisor, pushed up
 obtain ⟨Y, hYd⟩ : ∃ Y, Y = y * 2 ^ s := ⟨_, rfl⟩
 have hYM : Y < 18446744073709551616 := by
  have := (Nat.mul_lt_mul_right (a0 := hp)).2 hL.1
  rw [← Nat.pow_add, show L + s = 64 by omega] at this
  rw [hYd]; exact this
 have hYn : 9223372036854775808 ≤ Y := by
  have := Nat.mul_le_mul_right (2 ^ s) (hL.2.resolve_left hL0)
  rw [← Nat.pow_add, show L - 1 + s = 63 by omega] at this
  rw [hYd]; exact this
 have E1 : y * 2 ^ (min s 64) % 18446744073709551616 = Y := by rw [Nat.min_eq_left (by omega), ← hYd]; exact Nat.mod_eq_of_lt hYM
 obtain ⟨y1, hy1d⟩ : ∃ y1, Y / 4294967296 = y1 := ⟨_, rfl⟩
 obtain ⟨y0, hy0d⟩ : ∃ y0, Y % 4294967296 = y0 := ⟨_, rfl⟩
 have hY : Y = y1 * 4294967296 + y0 := by omega
 have hy1 : y1 < 4294967296 := by omega
 have hy0 : y0 < 4294967296 := by omega
 have hn : 4294967296 ≤ 2 * y1 := by omega
 have E2 : (64 + 18446744073709551616 - s % 18446744073709551616) % 18446744073709551616 = 64 - s := by omega
 -- the dividend, pushed up
 have ht : lo / 2 ^ (64 - s) < 2 ^ s := by rw [Nat.div_lt_iff_lt_mul (Nat.two_pow_pos _), hPQ]; exact hlo
 obtain ⟨u, hu⟩ : ∃ u, u = hi * 2 ^ s + lo / 2 ^ (64 - s) := ⟨_, rfl⟩
 have huY : u < Y := by
  have := Nat.mul_le_mul_right (2 ^ s) (show hi + 1 ≤ y by omega)
  rw [Nat.add_mul, Nat.one_mul, ← hYd] at this
  omega
 have hhs : hi * 2 ^ s < 18446744073709551616 := by
  have := Nat.le_add_right (hi * 2 ^ s) (lo / 2 ^ (64 - s))
  rw [← hu] at this
  omega
 have E3 : hi * 2 ^ (min s 64) % 18446744073709551616 % 18446744073709551616 ||| lo / 2 ^ (min (64 - s) 64) % 18446744073709551616 = u := by
  rw [Nat.min_eq_left (show s ≤ 64 by omega), Nat.min_eq_left (show 64 - s ≤ 64 by omega), E1h (by omega) ht, Nat.mod_eq_of_lt hhs, ← hu]
 obtain ⟨v, hv⟩ : ∃ v, v = lo * 2 ^ s % 18446744073709551616 := ⟨_, rfl⟩
 have E4 : lo * 2 ^ (min s 64) % 18446744073709551616 = v := by rw [Nat.min_eq_left (by omega), ← hv]
 have hvM : v < 18446744073709551616 := by rw [hv]; exact Nat.mod_lt _ (by decide)
 obtain ⟨u1, hu1d⟩ : ∃ u1, v / 4294967296 = u1 := ⟨_, rfl⟩
 obtain ⟨u0, hu0d⟩ : ∃ u0, v % 4294967296 = u0 := ⟨_, rfl⟩
 have hu1 : u1 < 4294967296 := by omega
 have hu0 : u0 < 4294967296 := by omega
 have hN : (hi * 18446744073709551616 + lo) * 2 ^ s = (u * 4294967296 + u1) * 4294967296 + u0 := by
  have hl : lo * 2 ^ s = lo / 2 ^ (64 - s) * 18446744073709551616 + v := by
   have := Nat.div_add_mod' (lo * 2 ^ s) 18446744073709551616
   have hdv : ∀ l : Nat, l * 2 ^ s / 18446744073709551616 = l / 2 ^ (64 - s) := by
    intro l
    rw [← hPQ, Nat.mul_comm l, Nat.mul_div_mul_left _ _ hp]
   rw [← hv, hdv] at this
   exact this.symm
  rw [Nat.add_mul, hl, Nat.mul_right_comm]
  generalize hi * 2 ^ s = w at *
  generalize lo / 2 ^ (64 - s) = t at *
  omega
 -- the numbers of the first digit
 have hz : ¬ y1 = 0 := by omega
 have hd : u / y1 % 18446744073709551616 = u / y1 := Nat.mod_eq_of_lt (Nat.lt_of_le_of_lt (Nat.div_le_self _ _) (by omega))
 have hr : (u + 18446744073709551616 - u / y1 * y1 % 18446744073709551616 % 18446744073709551616) % 18446744073709551616 = u % y1 := by
  have := Nat.div_add_mod' u y1
  generalize u / y1 * y1 = m at *
  generalize u % y1 = r at *
  omega
 have huY' : u < y1 * 4294967296 + y0 := by omega
 have hg := C2g (u := u) (u1 := u1) huY' hu1 hy0 hy1 hn
 have hdig := C46 huY' hu1
 have hYp : 0 < y1 * 4294967296 + y0 := by omega
 have p32 : 2 ^ (min 32 64) = 4294967296 := rfl
 -- what is behind the first loop
 have tail : ∀ (q : Nat) (x1 x2 x3 x4 x8 x10 x11 x12 x13 x14 x15 x16 x17 x18 x19 : AV), q = (u * 4294967296 + u1) / (y1 * 4294967296 + y0) →
   W Tryz.prog E0 (A4 []) (A7q (A4 []) A3g (.tp [U ((hi * 18446744073709551616 + lo) / y : Nat), U ((hi * 18446744073709551616 + lo) % y : Nat)]) []) A41 []
   [(0, x1), (1, x2), (2, U Y), (6, x3), (7, x4), (8, U s), (9, U y1), (10, U y0), (11, U u), (12, x8), (13, U u1), (14, U u0), (15, U q), (16, x10), (17, x18), (18, x19), (20, x11), (24, x12), (27, x13), (78, x14), (85, x15), (113, x16), (120, x17)] [] := by
  intro q x1 x2 x3 x4 x8 x10 x11 x12 x13 x14 x15 x16 x17 x18 x19 hq
  rw [← hY] at hq hdig
  rw [← hq] at hdig
  obtain ⟨n, hnd⟩ : ∃ n, (u * 4294967296 + u1) % Y = n := ⟨_, rfl⟩
  have hnY : n < Y := by rw [← hnd]; exact Nat.mod_lt _ (by omega)
  have htwo := D2w (n := u * 4294967296 + u1) (un0 := u0) (show 0 < Y by omega)
  rw [← hq, hnd, ← hN] at htwo
  have hen : ((u * 4294967296 % 18446744073709551616 + u1) % 18446744073709551616 + 18446744073709551616 - q * Y % 18446744073709551616 % 18446744073709551616) % 18446744073709551616 = n := by
   have h7 := Nat.div_add_mod' (u * 4294967296 + u1) Y
   rw [← hq, hnd] at h7
   obtain ⟨w, hw⟩ : ∃ w, q * Y = w := ⟨_, rfl⟩
   rw [hw] at h7 ⊢
   clear htwo hdig hg hd hr hN hq hnd hw
   omega
  refine D9v Y s y1 y0 u u1 u0 q _ _ _ _ _ _ _ _ _ _ _ _ _ _ _ _ _ hY hYM hy1 hy0 hn hu0 hdig n hen hnY ?_ ?_
  ·rw [← htwo.1, hYd, Nat.mul_div_mul_right _ _ hp]
  ·rw [← htwo.2, hYd, Nat.mul_mod_mul_right, Nat.min_eq_left (by omega), Nat.mul_div_cancel _ hp]
 simp only [go_sem, B3p, h1, h2, h3]
 refine A6 (B4i y L hy hL hL64) ?_
 simp only [go_sem, es, E1, E2, E3, E4, p32, D7t, hy1d, hy0d, hu1d, hu0d, C06 hz, hd, hr]
 refine C8 (fun x : Nat × Nat => x.1) (fun x => Guess u u1 y1 y0 x.1 x.2)
  (fun x => [(2, U Y), (8, U s), (9, U y1), (10, U y0), (11, U u), (13, U u1), (14, U u0), (15, U x.1), (16, U x.2)])
  (fun x => []) (u / y1, u % y1) hg sR0 ?_
 rintro ⟨q, r⟩ g
 simp only at g
 have gr := g.r
 have gl := g.le
 have e0 : 0 < q → (q + 18446744073709551616 - 1 % 18446744073709551616) % 18446744073709551616 = q - 1 := by omega
 have e2 : (r + y1) % 18446744073709551616 = r + y1 := by omega
 cases hq : decide (4294967296 ≤ q)
 ·have hq' : q < 4294967296 := by simpa using hq
  have e3 : q * y0 % 18446744073709551616 = q * y0 := by
   have := Nat.mul_le_mul (show q ≤ 4294967295 by omega) (show y0 ≤ 4294967295 by omega)
   exact Nat.mod_eq_of_lt (by omega)
  have e4 : (4294967296 * r % 18446744073709551616 + u1) % 18446744073709551616 = 4294967296 * r + u1 := by omega
  simp only [go_sem, A73, hq, e3, e4]
  refine G3 rfl (fun h => ?_) (fun h => ?_)
  ·have hnext := B3l huY' hu1 g (Or.inr (by simpa using h))
   have e1 := e0 hnext.2.1
   simp only [go_sem, e1, e2]
   refine G3 rfl (fun h5 => ?_) (fun h5 => ?_)
   ·simp only [go_sem]
    have hb := B00 hYp hy0 hnext.2.2 hnext.1 (by omega) (by simpa using h5)
    exact tail _ _ _ _ _ _ _ _ _ _ _ _ _ _ _ _ hb
   ·simp only [go_sem]
    refine C3 (q - 1, r + y1) (by simp only; omega) ⟨hnext.2.2, by simpa using h5, hnext.1, by simp only; omega⟩ sR0
  ·simp only [go_sem]
   have hb := C5a hYp g (by simpa using h)
   exact tail _ _ _ _ _ _ _ _ _ _ _ _ _ _ _ _ hb
 ·have hnext := B3l huY' hu1 g (Or.inl (by simpa using hq))
  have e1 := e0 hnext.2.1
  simp only [go_sem, A73, hq, e1, e2]
  refine G3 rfl (fun h5 => ?_) (fun h5 => ?_)
  ·simp only [go_sem]
   have hb := B00 hYp hy0 hnext.2.2 hnext.1 (by omega) (by simpa using h5)
   exact tail _ _ _ _ _ _ _ _ _ _ _ _ _ _ _ _ hb
  ·simp only [go_sem]
   refine C3 (q - 1, r + y1) (by simp only; omega) ⟨hnext.2.2, by simpa using h5, hnext.1, by simp only; omega⟩ sR0

theorem C9p (a : Nat) : Meets Tryz.prog E0 B2u [WV a, U (0 : Nat)] [] (.tp [WV 0, U (0 : Nat), I 1]) [] := by
 refine X6 C4x ?_
 simp only [go_sem, B7x]
 refine wE ?_
 simp only [go_sem, B8e]

theorem D3w (a d : Nat) (ha : a < 340282366920938463463374607431768211456) (hd : d < 18446744073709551616) (h0 : 0 < d) : Meets Tryz.prog E0 B2u [WV a, U d] [] (.tp [WV (a / d), U (a % d : Nat), I 0]) [] := by
 refine X6 C4x ?_
 have hz : ¬ d = 0 := by omega
 have hd0 : decide (d = 0) = false := by simp; omega
 have hq : a / 18446744073709551616 / d % 18446744073709551616 = a / 18446744073709551616 / d := Nat.mod_eq_of_lt (Nat.lt_of_le_of_lt (Nat.div_le_self _ _) (by omega))
 have hl : a / 18446744073709551616 % d < d := Nat.mod_lt _ h0
 simp only [go_sem, B7x, hd0, C06 hz, C8f hz, hq]
 refine A6 (C8v (a / 18446744073709551616 % d) (a % 18446744073709551616) d (by omega) hd hl) ?_
 simp only [go_sem]
 refine wE ?_
 simp only [go_sem, B8e]
 have e : a = d * (a / 18446744073709551616 / d * 18446744073709551616) + (a / 18446744073709551616 % d * 18446744073709551616 + a % 18446744073709551616) := by
  have h1 := Nat.div_add_mod a 18446744073709551616
  have h2 := Nat.div_add_mod (a / 18446744073709551616) d
  rw [← Nat.mul_assoc, ← Nat.add_assoc, ← Nat.add_mul, h2]
  omega
 have hb : (a / 18446744073709551616 % d * 18446744073709551616 + a % 18446744073709551616) / d < 18446744073709551616 := by
  rw [Nat.div_lt_iff_lt_mul h0]
  have := Nat.mul_le_mul_right 18446744073709551616 (show a / 18446744073709551616 % d + 1 ≤ d by omega)
  omega
 have e1 : a / d = a / 18446744073709551616 / d * 18446744073709551616 + (a / 18446744073709551616 % d * 18446744073709551616 + a % 18446744073709551616) / d := by
  conv => lhs; rw [e]
  rw [Nat.mul_add_div h0]
 have e2 : a % d = (a / 18446744073709551616 % d * 18446744073709551616 + a % 18446744073709551616) % d := by
  conv => lhs; rw [e]
  rw [Nat.mul_add_mod]
 rw [← e2, e1]
 generalize (a / 18446744073709551616 % d * 18446744073709551616 + a % 18446744073709551616) / d = x at *
 generalize a / 18446744073709551616 / d = z at *
 simp only [Option.some.injEq, AV.tp.injEq, AV.ag.injEq, List.cons.injEq, AV.t.injEq, T.v.injEq, T.sl.injEq, Value.int.injEq, Value.bool.injEq, Value.string.injEq, decide_eq_decide, true_and, and_true]
 omega

theorem B3h (a d : Nat) (ha : a < 340282366920938463463374607431768211456) (hd : d < 18446744073709551616) : Meets Tryz.prog E0 B33 [WV a, U d] [] (.tp [U (A3m a d), I (A0f a d)]) [] := by
 refine X6 C8n ?_
 by_cases h0 : d = 0
 ·subst h0
  simp only [go_sem, B32]
  refine A6 (C9p a) ?_
  simp only [go_sem, show decide ((1 : Int) = 0) = false from rfl]
  refine wE ?_
  simp only [go_sem, A3e]
  simp [A3m, A0f]
 ·have hr : a % d < d := Nat.mod_lt _ (by omega)
  have hq : a / d ≤ a := Nat.div_le_self _ _
  have hsub : (d + 18446744073709551616 - a % d % 18446744073709551616) % 18446744073709551616 = d - a % d := by omega
  have hz : decide ((0 : Int) = 0) = true := rfl
  simp only [go_sem, B32]
  refine A6 (D3w a d ha hd (by omega)) ?_
  simp only [go_sem, hz, hsub]
  refine G3 rfl (fun h => ?_) (fun h => ?_)
  ·simp at h
   have hr1 : rnd a d = a / d + 1 := if_pos (by omega)
   have hq2 : a / d + 1 < 340282366920938463463374607431768211456 := by
    have hd2 : 2 ≤ d := by omega
    have : a / d ≤ a / 2 := Nat.div_le_div_left hd2 (by decide)
    omega
   simp only [go_sem]
   refine A6 (D31 (a / d) 1 (by omega) (by omega)) ?_
   simp only [go_sem, Nat.mod_eq_of_lt hq2, ← hr1]
   refine G3 rfl (fun h1 => ?_) (fun h1 => ?_)
   ·simp at h1
    simp only [go_sem]
    refine wE ?_
    simp only [go_sem, A3e]
    have h2 : 18446744073709551616 ≤ rnd a d := by omega
    simp [A3m, A0f, h0, h2]
   ·simp at h1
    simp only [go_sem]
    refine wE ?_
    simp only [go_sem, A3e]
    have h2 : ¬ 18446744073709551616 ≤ rnd a d := by omega
    simp only [A3m, A0f, if_neg h0, if_neg h2]
    simp only [Option.some.injEq, AV.tp.injEq, AV.ag.injEq, List.cons.injEq, AV.t.injEq, T.v.injEq, T.sl.injEq, Value.int.injEq, Value.bool.injEq, Value.string.injEq, decide_eq_decide, true_and, and_true]
    omega
  ·simp at h
   have hr1 : rnd a d = a / d := if_neg (by omega)
   simp only [go_sem, ← hr1]
   refine G3 rfl (fun h1 => ?_) (fun h1 => ?_)
   ·simp at h1
    simp only [go_sem]
    refine wE ?_
    simp only [go_sem, A3e]
    have h2 : 18446744073709551616 ≤ rnd a d := by omega
    simp [A3m, A0f, h0, h2]
   ·simp at h1
    simp only [go_sem]
    refine wE ?_
    simp only [go_sem, A3e]
    have h2 : ¬ 18446744073709551616 ≤ rnd a d := by omega
    simp only [A3m, A0f, if_neg h0, if_neg h2]
    simp only [Option.some.injEq, AV.tp.injEq, AV.ag.injEq, List.cons.injEq, AV.t.injEq, T.v.injEq, T.sl.injEq, Value.int.injEq, Value.bool.injEq, Value.string.injEq, decide_eq_decide, true_and, and_true]
    omega

/-- A number, or nothing. -/
abbrev NV (x : Bool) (v : Int) : AV := .ag [Bo x, I v]

/-- A number that is right, or nothing. -/
abbrev NO (o : Option Int) : AV := .ag [Bo o.isNone, I (o.getD 0)]

/-- What counts of a number. -/
def Y8 (x : Bool) (v : Int) : Option Int := if x = false ∧ -9223372036854775808 < v then some v else none

/-- What can be told. -/
def A5m (z : Int) : Option Int := if -9223372036854775808 < z ∧ z < 9223372036854775808 then some z else none

/-- A size with a sign. -/
def B81 (n : Nat) (b : Bool) : Option Int := if n < 9223372036854775808 then some (if b then -(n : Int) else n) else none

def okN (x : Bool) (v : Int) : Bool := !x && decide (-9223372036854775808 < v)

theorem S9 {x : Bool} {v : Int} (h : okN x v = true) : Y8 x v = some v ∧ x = false ∧ -9223372036854775808 < v := by
 simp [okN] at h; exact ⟨by simp [Y8, h], h.1, h.2⟩

theorem V4 {x : Bool} {v : Int} (h : okN x v = false) : Y8 x v = none := by
 simp only [okN, Bool.and_eq_false_iff, Bool.not_eq_false', decide_eq_false_iff_not] at h
 unfold Y8
 rcases h with h | h
 ·simp [h]
 ·rw [if_neg (fun h2 => h h2.2)]

theorem D3j {y z : Int} (h : A5m y = some z) : -9223372036854775808 < z ∧ z < 9223372036854775808 := by
 simp only [A5m] at h
 split at h
 ·injection h with h; omega
 ·cases h

theorem D62 {n : Nat} {b : Bool} {z : Int} (h : B81 n b = some z) : -9223372036854775808 < z ∧ z < 9223372036854775808 := by
 simp only [B81] at h
 split at h
 ·injection h with h; subst h; split <;> omega
 ·cases h

/-- A number that came of a reckoning. -/
def Rt (o : Option Int) : Prop := ∀ z, o = some z → -9223372036854775808 < z ∧ z < 9223372036854775808

theorem Rt.lo {o : Option Int} (h : Rt o) : -9223372036854775808 ≤ o.getD 0 := by
 cases o with
 | none => simp
 | some z => have := (h z rfl).1; simp only [Option.getD_some]; omega
theorem Rt.hi {o : Option Int} (h : Rt o) : o.getD 0 < 9223372036854775808 := by
 cases o with
 | none => simp
 | some z => have := (h z rfl).2; simp only [Option.getD_some]; omega
theorem Rt.val {o : Option Int} (h : Rt o) : Y8 o.isNone (o.getD 0) = o := by
 cases o with
 | none => rfl
 | some z => have := (h z rfl).1; simp [Y8, this]

theorem B4t {v : Int} (h : -9223372036854775808 < v) : Y8 false v = some v := by simp [Y8, h]
theorem E0k {x : Bool} {v : Int} (h : v ≤ -9223372036854775808) : Y8 x v = none := by
 unfold Y8; rw [if_neg (fun h2 => by have := h2.2; omega)]
theorem B6k {z : Int} (h1 : -9223372036854775808 < z) (h2 : z < 9223372036854775808) : A5m z = some z := if_pos ⟨h1, h2⟩
theorem B5h {z : Int} (h : z ≤ -9223372036854775808 ∨ 9223372036854775808 ≤ z) : A5m z = none := if_neg (by omega)
theorem C8z {n : Nat} (h : n < 9223372036854775808) : B81 n false = some (n : Int) := if_pos h
theorem C90 {n : Nat} (h : n < 9223372036854775808) : B81 n true = some (-(n : Int)) := if_pos h
theorem C9q {n : Nat} {b : Bool} (h : 9223372036854775808 ≤ n) : B81 n b = none := if_neg (by omega)
theorem D22 {n : Nat} {b : Bool} {z : Int} (h : z = if b then -(n : Int) else n) : B81 n b = A5m z := by
 subst h
 by_cases hn : n < 9223372036854775808
 ·cases b
  ·rw [C8z hn, if_neg (by decide), B6k (by omega) (by omega)]
  ·rw [C90 hn, if_pos rfl, B6k (by omega) (by omega)]
 ·rw [C9q (by omega)]
  cases b
  ·rw [if_neg (by decide), B5h (by omega)]
  ·rw [if_pos rfl, B5h (by omega)]

def A71 (a b : Option Int) : Option Int := match a, b with
 | some x, some y => A5m (x + y)
 | _, _ => none
/-- Two sizes' product, divided by a third one, and rounded, with a sign. -/
def C1q (x y d : Nat) (b : Bool) : Option Int := if d = 0 then none else B81 (rnd (x * y) d) b
def neg (x : Int) : Bool := decide (x < 0)
def D77 (a b : Option Int) : Option Int := match a, b with
 | some x, some y => C1q x.natAbs 1000000 y.natAbs (neg x != neg y)
 | _, _ => none
def D3h (a b : Option Int) : Int := match a, b with
 | some x, some y => if x < y then -1 else if y < x then 1 else 0
 | some _, none => 1
 | none, some _ => -1
 | none, none => 0
def A31 (a b : Option Int) : Option Int := match a, b with
 | some x, some y => if x ≤ y then some x else some y
 | some x, none => some x
 | none, y => y
def A2x (a b : Option Int) : Option Int := match a, b with
 | some x, some y => if y ≤ x then some x else some y
 | some x, none => some x
 | none, y => y

theorem K2 : Meets Tryz.prog E0 R5 [] [] (NO none) [] := by
 refine X6 C3d ?_
 simp only [go_sem, B40]
 all_goals
  refine wE ?_
  simp only [go_sem, B47]
  rfl

theorem B10 (x : Bool) (v : Int) (h1 : -9223372036854775808 ≤ v) : Meets Tryz.prog E0 A40 [NV x v] [] (Bo (if x then decide (v = 0) else decide (-9223372036854775808 < v))) [] := by
 refine X6 C6w ?_
 cases x
 all_goals
  repeat' (first | (simp only [go_sem, B0q, *]) | (simp (disch := omega) only [B0q, A5, C4, C1, J1, J6]) | ((with_reducible first | refine Q4 (fun hsp => ?_) fun hsp => ?_ | refine Q3 (fun hsp => ?_) fun hsp => ?_) <;> (try simp only [spB, spD, spC] at hsp)) | (with_reducible refine rF ?_))
  refine wE ?_
  simp only [go_sem, B7n]
  try (simp only [Option.some.injEq, AV.tp.injEq, AV.ag.injEq, List.cons.injEq, AV.t.injEq, T.v.injEq, T.sl.injEq, Value.int.injEq, Value.bool.injEq, Value.string.injEq, decide_eq_decide, true_and, and_true]; omega)

theorem L3 (x : Bool) (v : Int) : Meets Tryz.prog E0 T0 [NV x v] [] (Bo (okN x v)) [] := by
 refine X6 C6h ?_
 unfold okN
 cases x
 all_goals
  repeat' (first | (simp only [go_sem, B17, *]) | (simp (disch := omega) only [B17, A5, C4, C1, J1, J6]) | ((with_reducible first | refine Q4 (fun hsp => ?_) fun hsp => ?_ | refine Q3 (fun hsp => ?_) fun hsp => ?_) <;> (try simp only [spB, spD, spC] at hsp)) | (with_reducible refine rF ?_))
  refine wE ?_
  simp only [go_sem, B7e]
  try (simp only [Option.some.injEq, AV.tp.injEq, AV.ag.injEq, List.cons.injEq, AV.t.injEq, T.v.injEq, T.sl.injEq, Value.int.injEq, Value.bool.injEq, Value.string.injEq, decide_eq_decide, true_and, and_true]; omega)

theorem C8s (x : Bool) (v : Int) (h1 : -9223372036854775808 ≤ v) (h2 : v < 9223372036854775808) : Meets Tryz.prog E0 A89 [NV x v] [] (.tp [U ((v.natAbs : Nat) : Int), Bo (neg v)]) [] := by
 refine X6 C9i ?_
 by_cases h : v < 0
 ·have e1 : IntKind.u64.wrap (IntKind.i64.wrap (0 - v)) = ((v.natAbs : Nat) : Int) := by rw [D0z, A0t]; split <;> omega
  have e3 : neg v = true := by simp [neg, h]
  repeat' (first | (simp only [go_sem, A4y, e1, *]) | (simp (disch := omega) only [A4y, e1, A5, C4, C1, J1, J6]) | ((with_reducible first | refine Q4 (fun hsp => ?_) fun hsp => ?_ | refine Q3 (fun hsp => ?_) fun hsp => ?_) <;> (try simp only [spB, spD, spC] at hsp)) | (with_reducible refine rF ?_))
  refine wE ?_
  simp only [go_sem, B3r, e1, e3]
 ·have e2 : IntKind.u64.wrap v = ((v.natAbs : Nat) : Int) := by rw [A0t]; omega
  have e3 : neg v = false := by simp [neg, h]
  repeat' (first | (simp only [go_sem, A4y, e2, *]) | (simp (disch := omega) only [A4y, e2, A5, C4, C1, J1, J6]) | ((with_reducible first | refine Q4 (fun hsp => ?_) fun hsp => ?_ | refine Q3 (fun hsp => ?_) fun hsp => ?_) <;> (try simp only [spB, spD, spC] at hsp)) | (with_reducible refine rF ?_))
  refine wE ?_
  simp only [go_sem, B3r, e2, e3]

theorem C9a (n : Nat) (b : Bool) (h : n < 18446744073709551616) : Meets Tryz.prog E0 B3o [U n, Bo b] [] (NO (B81 n b)) [] := by
 refine X6 C93 ?_
 by_cases hn : n < 9223372036854775808
 ·have e0 : decide (9223372036854775807 < n) = false := decide_eq_false (by omega)
  have f1 : IntKind.i64.wrap (n : Int) = n := A5 (by omega) (by omega)
  have f2 : IntKind.i64.wrap (0 - (n : Int)) = -n := by rw [A5 (by omega) (by omega)]; omega
  cases b
  ·rw [C8z hn]
   repeat' (first | (simp only [go_sem, A1n, *]) | (simp (disch := omega) only [A1n, A5, C4, C1, J1, J6]) | ((with_reducible first | refine Q4 (fun hsp => ?_) fun hsp => ?_ | refine Q3 (fun hsp => ?_) fun hsp => ?_) <;> (try simp only [spB, spD, spC] at hsp)) | (with_reducible refine rF ?_))
   all_goals
    refine wE ?_
    simp only [go_sem, A7z]
    rfl
  ·rw [C90 hn]
   repeat' (first | (simp only [go_sem, A1n, *]) | (simp (disch := omega) only [A1n, A5, C4, C1, J1, J6]) | ((with_reducible first | refine Q4 (fun hsp => ?_) fun hsp => ?_ | refine Q3 (fun hsp => ?_) fun hsp => ?_) <;> (try simp only [spB, spD, spC] at hsp)) | (with_reducible refine rF ?_))
   all_goals
    refine wE ?_
    simp only [go_sem, A7z]
    rfl
 ·have e0 : decide (9223372036854775807 < n) = true := decide_eq_true (by omega)
  rw [C9q (by omega)]
  repeat' (first | (with_reducible first | refine A6 K2 ?_) | (simp only [go_sem, A1n, *]) | (simp (disch := omega) only [A1n, A5, C4, C1, J1, J6]) | ((with_reducible first | refine Q4 (fun hsp => ?_) fun hsp => ?_ | refine Q3 (fun hsp => ?_) fun hsp => ?_) <;> (try simp only [spB, spD, spC] at hsp)) | (with_reducible refine rF ?_))
  all_goals
   refine wE ?_
   simp only [go_sem, A7z]
   rfl

theorem D0r (v : Int) (h1 : -9223372036854775808 ≤ v) (h2 : v < 9223372036854775808) : Meets Tryz.prog E0 B4z [I v] [] (NO (A5m (v * 1000000))) [] := by
 refine X6 D1k ?_
 by_cases h : -9223372036854775808 < v * 1000000 ∧ v * 1000000 < 9223372036854775808
 ·rw [B6k h.1 h.2]
  have d0 : decide (v < -9223372036854) = false := decide_eq_false (by omega)
  have d1 : decide (9223372036854 < v) = false := decide_eq_false (by omega)
  have e1 : IntKind.i64.wrap v = v := A5 (by omega) (by omega)
  have e2 : IntKind.i64.wrap (v * 1000000) = v * 1000000 := A5 (by omega) (by omega)
  clear h
  repeat' (first | (with_reducible first | refine A6 K2 ?_) | (simp only [go_sem, A2q, *]) | (simp (disch := omega) only [A2q, A5, C4, C1, J1, J6]) | ((with_reducible first | refine Q4 (fun hsp => ?_) fun hsp => ?_ | refine Q3 (fun hsp => ?_) fun hsp => ?_) <;> (try simp only [spB, spD, spC] at hsp)) | (with_reducible refine rF ?_))
  all_goals
   refine wE ?_
   simp only [go_sem, B0h]
   rfl
 ·rw [B5h (by omega)]
  cases d1 : decide (9223372036854 < v)
  ·have d0 : decide (v < -9223372036854) = true := decide_eq_true (by simp at d1; omega)
   clear h
   repeat' (first | (with_reducible first | refine A6 K2 ?_) | (simp only [go_sem, A2q, *]) | (simp (disch := omega) only [A2q, A5, C4, C1, J1, J6]) | ((with_reducible first | refine Q4 (fun hsp => ?_) fun hsp => ?_ | refine Q3 (fun hsp => ?_) fun hsp => ?_) <;> (try simp only [spB, spD, spC] at hsp)) | (with_reducible refine rF ?_))
   all_goals
    refine wE ?_
    simp only [go_sem, B0h]
    rfl
  ·clear h
   repeat' (first | (with_reducible first | refine A6 K2 ?_) | (simp only [go_sem, A2q, *]) | (simp (disch := omega) only [A2q, A5, C4, C1, J1, J6]) | ((with_reducible first | refine Q4 (fun hsp => ?_) fun hsp => ?_ | refine Q3 (fun hsp => ?_) fun hsp => ?_) <;> (try simp only [spB, spD, spC] at hsp)) | (with_reducible refine rF ?_))
   all_goals
    refine wE ?_
    simp only [go_sem, B0h]
    rfl

theorem D0a (x y : Bool) (v u : Int) (h1 : -9223372036854775808 ≤ v) (h2 : v < 9223372036854775808) (h3 : -9223372036854775808 ≤ u) (h4 : u < 9223372036854775808) : Meets Tryz.prog E0 A4i [NV x v, NV y u] [] (NO (A71 (Y8 x v) (Y8 y u))) [] := by
 refine X6 D28 ?_
 cases ha : okN x v
 ·rw [V4 ha]
  repeat' (first | (with_reducible first | refine A6 (L3 _ _) ?_ | refine A6 K2 ?_) | (simp only [go_sem, A0k, *]) | (simp (disch := omega) only [A0k, A5, C4, C1, J1, J6]) | ((with_reducible first | refine Q4 (fun hsp => ?_) fun hsp => ?_ | refine Q3 (fun hsp => ?_) fun hsp => ?_) <;> (try simp only [spB, spD, spC] at hsp)) | (with_reducible refine rF ?_))
  all_goals
    refine wE ?_
    simp only [go_sem, A6t]
    rfl
 ·obtain ⟨e1, rfl, e3⟩ := S9 ha
  cases hb : okN y u
  ·rw [e1, V4 hb]
   repeat' (first | (with_reducible first | refine A6 (L3 _ _) ?_ | refine A6 K2 ?_) | (simp only [go_sem, A0k, *]) | (simp (disch := omega) only [A0k, A5, C4, C1, J1, J6]) | ((with_reducible first | refine Q4 (fun hsp => ?_) fun hsp => ?_ | refine Q3 (fun hsp => ?_) fun hsp => ?_) <;> (try simp only [spB, spD, spC] at hsp)) | (with_reducible refine rF ?_))
   all_goals
    all_goals
     refine wE ?_
     simp only [go_sem, A6t]
     rfl
  ·obtain ⟨g1, rfl, g3⟩ := S9 hb
   rw [e1, g1]
   clear e1 g1
   by_cases hr : -9223372036854775808 < v + u ∧ v + u < 9223372036854775808
   ·have ew : IntKind.i64.wrap (v + u) = v + u := A5 (by omega) (by omega)
    rw [show A71 (some v) (some u) = some (v + u) from B6k hr.1 hr.2]
    have hr1 := hr.1
    have hr2 := hr.2
    clear hr
    repeat' (first | (with_reducible first | refine A6 (L3 _ _) ?_ | refine A6 K2 ?_) | (simp only [go_sem, A0k, ew, *]) | (simp (disch := omega) only [A0k, ew, A5, C4, C1, J1, J6]) | ((with_reducible first | refine Q4 (fun hsp => ?_) fun hsp => ?_ | refine Q3 (fun hsp => ?_) fun hsp => ?_) <;> (try simp only [spB, spD, spC] at hsp)) | (with_reducible refine rF ?_))
    all_goals
     refine wE ?_
     simp only [go_sem, A6t]
     first | rfl | (exfalso; omega)
   ·rw [show A71 (some v) (some u) = none from B5h (by omega)]
    have hr1 : v + u ≤ -9223372036854775808 ∨ 9223372036854775808 ≤ v + u := by omega
    clear hr
    repeat' (first | (with_reducible first | refine A6 (L3 _ _) ?_ | refine A6 K2 ?_) | (simp only [go_sem, A0k, *]) | (simp (disch := omega) only [A0k, A5, C4, C1, J1, J6]) | ((with_reducible first | refine Q4 (fun hsp => ?_) fun hsp => ?_ | refine Q3 (fun hsp => ?_) fun hsp => ?_) <;> (try simp only [spB, spD, spC] at hsp)) | (with_reducible refine rF ?_))
    all_goals
     refine wE ?_
     simp only [go_sem, A6t]
     first | rfl | (exfalso; omega)

theorem C1i (x y d : Nat) (b : Bool) (hx : x < 18446744073709551616) (hy : y < 18446744073709551616) (hd : d < 18446744073709551616) : Meets Tryz.prog E0 A5w [U x, U y, U d, Bo b] [] (NO (C1q x y d b)) [] := by
 refine X6 C20 ?_
 have hm := C1p hx (Nat.le_of_lt hy)
 by_cases h0 : d = 0
 ·subst h0
  have e1 : C1q x y 0 b = none := if_pos rfl
  have e2 : A0f (x * y) 0 = 1 := by simp [A0f]
  rw [e1]
  clear e1
  repeat' (first | (with_reducible first | refine A6 (B7y x y hx hy) ?_ | refine A6 (B3h (x * y) 0 hm hd) ?_ | refine A6 K2 ?_) | (simp only [go_sem, V1, e2, *]) | (simp (disch := omega) only [V1, e2, A5, C4, C1, J1, J6]) | ((with_reducible first | refine Q4 (fun hsp => ?_) fun hsp => ?_ | refine Q3 (fun hsp => ?_) fun hsp => ?_) <;> (try simp only [spB, spD, spC] at hsp)) | (with_reducible refine rF ?_))
  refine wE ?_
  simp only [go_sem, A3d]
  rfl
 ·by_cases h1 : 18446744073709551616 ≤ rnd (x * y) d
  ·have e1 : C1q x y d b = none := by simp only [C1q, if_neg h0, B81]; rw [if_neg (by omega)]
   have e2 : A0f (x * y) d = 3 := by simp [A0f, h0, h1]
   rw [e1]
   clear e1 h1 h0
   repeat' (first | (with_reducible first | refine A6 (B7y x y hx hy) ?_ | refine A6 (B3h (x * y) d hm hd) ?_ | refine A6 K2 ?_) | (simp only [go_sem, V1, e2, *]) | (simp (disch := omega) only [V1, e2, A5, C4, C1, J1, J6]) | ((with_reducible first | refine Q4 (fun hsp => ?_) fun hsp => ?_ | refine Q3 (fun hsp => ?_) fun hsp => ?_) <;> (try simp only [spB, spD, spC] at hsp)) | (with_reducible refine rF ?_))
   refine wE ?_
   simp only [go_sem, A3d]
   rfl
  ·have e1 : C1q x y d b = B81 (rnd (x * y) d) b := by simp only [C1q, if_neg h0]
   have e2 : A0f (x * y) d = 0 := by simp [A0f, h0, h1]
   have e3 : A3m (x * y) d = rnd (x * y) d := by simp [A3m, h0, h1]
   rw [e1]
   clear e1 h0
   repeat' (first | (with_reducible first | refine A6 (B7y x y hx hy) ?_ | refine A6 (B3h (x * y) d hm hd) ?_ | refine A6 (C9a _ _ (by omega)) ?_) | (simp only [go_sem, V1, e2, e3, *]) | (simp (disch := omega) only [V1, e2, e3, A5, C4, C1, J1, J6]) | ((with_reducible first | refine Q4 (fun hsp => ?_) fun hsp => ?_ | refine Q3 (fun hsp => ?_) fun hsp => ?_) <;> (try simp only [spB, spD, spC] at hsp)) | (with_reducible refine rF ?_))
   refine wE ?_
   simp only [go_sem, A3d]

theorem D0f (x y : Bool) (v u : Int) (h1 : -9223372036854775808 ≤ v) (h2 : v < 9223372036854775808) (h3 : -9223372036854775808 ≤ u) (h4 : u < 9223372036854775808) : Meets Tryz.prog E0 B58 [NV x v, NV y u] [] (NO (D77 (Y8 x v) (Y8 y u))) [] := by
 refine X6 D1y ?_
 cases ha : okN x v
 ·rw [V4 ha]
  repeat' (first | (with_reducible first | refine A6 (L3 _ _) ?_ | refine A6 K2 ?_) | (simp only [go_sem, A2t, *]) | (simp (disch := omega) only [A2t, A5, C4, C1, J1, J6]) | ((with_reducible first | refine Q4 (fun hsp => ?_) fun hsp => ?_ | refine Q3 (fun hsp => ?_) fun hsp => ?_) <;> (try simp only [spB, spD, spC] at hsp)) | (with_reducible refine rF ?_))
  all_goals
   refine wE ?_
   simp only [go_sem, A9p]
   rfl
 ·obtain ⟨e1, rfl, e3⟩ := S9 ha
  cases hb : okN y u
  ·rw [e1, V4 hb]
   repeat' (first | (with_reducible first | refine A6 (L3 _ _) ?_ | refine A6 K2 ?_) | (simp only [go_sem, A2t, *]) | (simp (disch := omega) only [A2t, A5, C4, C1, J1, J6]) | ((with_reducible first | refine Q4 (fun hsp => ?_) fun hsp => ?_ | refine Q3 (fun hsp => ?_) fun hsp => ?_) <;> (try simp only [spB, spD, spC] at hsp)) | (with_reducible refine rF ?_))
   all_goals
    refine wE ?_
    simp only [go_sem, A9p]
    rfl
  ·obtain ⟨g1, rfl, g3⟩ := S9 hb
   rw [e1, g1]
   repeat' (first | (with_reducible first | refine A6 (L3 _ _) ?_ | refine A6 (C8s _ _ (by omega) (by omega)) ?_ | refine A6 (C1i v.natAbs 1000000 u.natAbs (!(neg v == neg u)) (by omega) (by omega) (by omega)) ?_) | (simp only [go_sem, A2t, *]) | (simp (disch := omega) only [A2t, A5, C4, C1, J1, J6]) | ((with_reducible first | refine Q4 (fun hsp => ?_) fun hsp => ?_ | refine Q3 (fun hsp => ?_) fun hsp => ?_) <;> (try simp only [spB, spD, spC] at hsp)) | (with_reducible refine rF ?_))
   all_goals
    refine wE ?_
    simp only [go_sem, A9p]
    rfl

theorem B96 (v : Int) : Meets Tryz.prog E0 A2h [I v] [] (Bo false) [] := by
 refine X6 B9a ?_
 have e0 : decide (v = v) = true := decide_eq_true rfl
 repeat' (first | (simp only [go_sem, A5e, e0, *]) | (simp (disch := omega) only [A5e, e0, A5, C4, C1, J1, J6]) | ((with_reducible first | refine Q4 (fun hsp => ?_) fun hsp => ?_ | refine Q3 (fun hsp => ?_) fun hsp => ?_) <;> (try simp only [spB, spD, spC] at hsp)) | (with_reducible refine rF ?_))
 refine wE ?_
 simp only [go_sem, B06]

theorem B6v (v u : Int) : Meets Tryz.prog E0 A3o [I v, I u] [] (I (if v < u then -1 else if u < v then 1 else 0)) [] := by
 refine X6 B6m ?_
 repeat' (first | (with_reducible first | refine A6 (B96 _) ?_) | (simp only [go_sem, A3j, *]) | (simp (disch := omega) only [A3j, A5, C4, C1, J1, J6]) | ((with_reducible first | refine Q4 (fun hsp => ?_) fun hsp => ?_ | refine Q3 (fun hsp => ?_) fun hsp => ?_) <;> (try simp only [spB, spD, spC] at hsp)) | (with_reducible refine rF ?_))
 all_goals
  refine wE ?_
  simp only [go_sem, A7o, *]

theorem A9q (x y : Bool) (v u : Int) : Meets Tryz.prog E0 A4h [NV x v, NV y u] [] (I (D3h (Y8 x v) (Y8 y u))) [] := by
 refine X6 D23 ?_
 cases ha : okN x v <;> cases hb : okN y u
 ·rw [V4 ha, V4 hb]
  repeat' (first | (with_reducible first | refine A6 (L3 _ _) ?_) | (simp only [go_sem, A0q, *]) | (simp (disch := omega) only [A0q, A5, C4, C1, J1, J6]) | ((with_reducible first | refine Q4 (fun hsp => ?_) fun hsp => ?_ | refine Q3 (fun hsp => ?_) fun hsp => ?_) <;> (try simp only [spB, spD, spC] at hsp)) | (with_reducible refine rF ?_))
  all_goals
   refine wE ?_
   simp only [go_sem, A6w]
   rfl
 ·rw [V4 ha, (S9 hb).1]
  repeat' (first | (with_reducible first | refine A6 (L3 _ _) ?_) | (simp only [go_sem, A0q, *]) | (simp (disch := omega) only [A0q, A5, C4, C1, J1, J6]) | ((with_reducible first | refine Q4 (fun hsp => ?_) fun hsp => ?_ | refine Q3 (fun hsp => ?_) fun hsp => ?_) <;> (try simp only [spB, spD, spC] at hsp)) | (with_reducible refine rF ?_))
  all_goals
   refine wE ?_
   simp only [go_sem, A6w]
   rfl
 ·rw [(S9 ha).1, V4 hb]
  repeat' (first | (with_reducible first | refine A6 (L3 _ _) ?_) | (simp only [go_sem, A0q, *]) | (simp (disch := omega) only [A0q, A5, C4, C1, J1, J6]) | ((with_reducible first | refine Q4 (fun hsp => ?_) fun hsp => ?_ | refine Q3 (fun hsp => ?_) fun hsp => ?_) <;> (try simp only [spB, spD, spC] at hsp)) | (with_reducible refine rF ?_))
  all_goals
   refine wE ?_
   simp only [go_sem, A6w]
   rfl
 ·rw [(S9 ha).1, (S9 hb).1]
  repeat' (first | (with_reducible first | refine A6 (L3 _ _) ?_ | refine A6 (B6v _ _) ?_) | (simp only [go_sem, A0q, *]) | (simp (disch := omega) only [A0q, A5, C4, C1, J1, J6]) | ((with_reducible first | refine Q4 (fun hsp => ?_) fun hsp => ?_ | refine Q3 (fun hsp => ?_) fun hsp => ?_) <;> (try simp only [spB, spD, spC] at hsp)) | (with_reducible refine rF ?_))
  all_goals
   refine wE ?_
   simp only [go_sem, A6w]
   rfl

/-- The one of two that is wanted, where both count; else the one that counts. -/
def D1h (a b : Option Int) (w : Bool) : Option Int := match a, b with
 | some x, some y => if w then some x else some y
 | some x, none => some x
 | none, y => y

theorem C0i (x y w : Bool) (v u : Int) : Meets Tryz.prog E0 A7v [NV x v, NV y u, Bo w] [] (NO (D1h (Y8 x v) (Y8 y u) w)) [] := by
 refine X6 C8k ?_
 cases ha : okN x v <;> cases hb : okN y u
 ·rw [V4 ha, V4 hb]
  repeat' (first | (with_reducible first | refine A6 (L3 _ _) ?_ | refine A6 K2 ?_) | (simp only [go_sem, Y9, *]) | (simp (disch := omega) only [Y9, A5, C4, C1, J1, J6]) | ((with_reducible first | refine Q4 (fun hsp => ?_) fun hsp => ?_ | refine Q3 (fun hsp => ?_) fun hsp => ?_) <;> (try simp only [spB, spD, spC] at hsp)) | (with_reducible refine rF ?_))
  all_goals
   refine wE ?_
   simp only [go_sem, A4s]
   rfl
 ·obtain ⟨g1, rfl, g3⟩ := S9 hb
  rw [V4 ha, g1]
  repeat' (first | (with_reducible first | refine A6 (L3 _ _) ?_) | (simp only [go_sem, Y9, *]) | (simp (disch := omega) only [Y9, A5, C4, C1, J1, J6]) | ((with_reducible first | refine Q4 (fun hsp => ?_) fun hsp => ?_ | refine Q3 (fun hsp => ?_) fun hsp => ?_) <;> (try simp only [spB, spD, spC] at hsp)) | (with_reducible refine rF ?_))
  all_goals
   refine wE ?_
   simp only [go_sem, A4s]
   rfl
 ·obtain ⟨g1, rfl, g3⟩ := S9 ha
  rw [g1, V4 hb]
  repeat' (first | (with_reducible first | refine A6 (L3 _ _) ?_) | (simp only [go_sem, Y9, *]) | (simp (disch := omega) only [Y9, A5, C4, C1, J1, J6]) | ((with_reducible first | refine Q4 (fun hsp => ?_) fun hsp => ?_ | refine Q3 (fun hsp => ?_) fun hsp => ?_) <;> (try simp only [spB, spD, spC] at hsp)) | (with_reducible refine rF ?_))
  all_goals
   refine wE ?_
   simp only [go_sem, A4s]
   rfl
 ·obtain ⟨g1, rfl, g3⟩ := S9 ha
  obtain ⟨e1, rfl, e3⟩ := S9 hb
  rw [e1, g1]
  cases w
  all_goals
   repeat' (first | (with_reducible first | refine A6 (L3 _ _) ?_) | (simp only [go_sem, Y9, *]) | (simp (disch := omega) only [Y9, A5, C4, C1, J1, J6]) | ((with_reducible first | refine Q4 (fun hsp => ?_) fun hsp => ?_ | refine Q3 (fun hsp => ?_) fun hsp => ?_) <;> (try simp only [spB, spD, spC] at hsp)) | (with_reducible refine rF ?_))
   all_goals
    refine wE ?_
    simp only [go_sem, A4s]
    rfl

theorem D5c (x y : Bool) (v u : Int) : D1h (Y8 x v) (Y8 y u) (decide (v ≤ u)) = A31 (Y8 x v) (Y8 y u) := by
 cases ha : okN x v <;> cases hb : okN y u
 ·rw [V4 ha, V4 hb]; rfl
 ·rw [V4 ha, (S9 hb).1]; rfl
 ·rw [(S9 ha).1, V4 hb]; rfl
 ·rw [(S9 ha).1, (S9 hb).1]; simp [D1h, A31]

theorem D6f (x y : Bool) (v u : Int) : D1h (Y8 x v) (Y8 y u) (decide (u ≤ v)) = A2x (Y8 x v) (Y8 y u) := by
 cases ha : okN x v <;> cases hb : okN y u
 ·rw [V4 ha, V4 hb]; rfl
 ·rw [V4 ha, (S9 hb).1]; rfl
 ·rw [(S9 ha).1, V4 hb]; rfl
 ·rw [(S9 ha).1, (S9 hb).1]; simp [D1h, A2x]

theorem C8l (x y : Bool) (v u : Int) : Meets Tryz.prog E0 A55 [NV x v, NV y u] [] (NO (A31 (Y8 x v) (Y8 y u))) [] := by
 refine X6 C99 ?_
 rw [← D5c]
 repeat' (first | (with_reducible first | refine A6 (C0i _ _ _ _ _) ?_) | (simp only [go_sem, B3b, *]) | (simp (disch := omega) only [B3b, A5, C4, C1, J1, J6]) | ((with_reducible first | refine Q4 (fun hsp => ?_) fun hsp => ?_ | refine Q3 (fun hsp => ?_) fun hsp => ?_) <;> (try simp only [spB, spD, spC] at hsp)) | (with_reducible refine rF ?_))
 refine wE ?_
 simp only [go_sem, B9b]

theorem C9c (x y : Bool) (v u : Int) : Meets Tryz.prog E0 A5h [NV x v, NV y u] [] (NO (A2x (Y8 x v) (Y8 y u))) [] := by
 refine X6 C9r ?_
 rw [← D6f]
 repeat' (first | (with_reducible first | refine A6 (C0i _ _ _ _ _) ?_) | (simp only [go_sem, B3c, *]) | (simp (disch := omega) only [B3c, A5, C4, C1, J1, J6]) | ((with_reducible first | refine Q4 (fun hsp => ?_) fun hsp => ?_ | refine Q3 (fun hsp => ?_) fun hsp => ?_) <;> (try simp only [spB, spD, spC] at hsp)) | (with_reducible refine rF ?_))
 refine wE ?_
 simp only [go_sem, C02]

theorem H5 : Meets Tryz.prog E0 N8 [] [] (NO none) [] := by
 refine X6 C3h ?_
 simp only [go_sem, B46]
 all_goals
  refine wE ?_
  simp only [go_sem, B3x]
  rfl

theorem A24 (x : Bool) (v : Int) (h1 : -9223372036854775808 ≤ v) : Meets Tryz.prog E0 Z5 [NV x v] [] (Bo (if x then decide (v = 0) else decide (-9223372036854775808 < v))) [] := by
 refine X6 C6n ?_
 cases x
 all_goals
  repeat' (first | (simp only [go_sem, B0y, *]) | (simp (disch := omega) only [B0y, A5, C4, C1, J1, J6]) | ((with_reducible first | refine Q4 (fun hsp => ?_) fun hsp => ?_ | refine Q3 (fun hsp => ?_) fun hsp => ?_) <;> (try simp only [spB, spD, spC] at hsp)) | (with_reducible refine rF ?_))
  refine wE ?_
  simp only [go_sem, B77]
  try (simp only [Option.some.injEq, AV.tp.injEq, AV.ag.injEq, List.cons.injEq, AV.t.injEq, T.v.injEq, T.sl.injEq, Value.int.injEq, Value.bool.injEq, Value.string.injEq, decide_eq_decide, true_and, and_true]; rw [Bool.eq_iff_iff]; simp; omega)

theorem E6 (x : Bool) (v : Int) (h1 : -9223372036854775808 ≤ v) : Meets Tryz.prog E0 O0 [NV x v] [] (Bo (okN x v)) [] := by
 refine X6 D36 ?_
 unfold okN
 have e := A24 x v h1
 cases x
 ·simp only [Bool.false_eq_true, if_false] at e
  cases hd : decide (-9223372036854775808 < v)
  all_goals
   rw [hd] at e
   repeat' (first | (with_reducible first | refine A6 e ?_) | (simp only [go_sem, A98, *]) | (simp (disch := omega) only [A98, A5, C4, C1, J1, J6]) | ((with_reducible first | refine Q4 (fun hsp => ?_) fun hsp => ?_ | refine Q3 (fun hsp => ?_) fun hsp => ?_) <;> (try simp only [spB, spD, spC] at hsp)) | (with_reducible refine rF ?_))
   refine wE ?_
   simp only [go_sem, B8j]
 ·simp only [if_true] at e
  cases hd : decide (v = 0)
  all_goals
   rw [hd] at e
   repeat' (first | (with_reducible first | refine A6 e ?_) | (simp only [go_sem, A98, *]) | (simp (disch := omega) only [A98, A5, C4, C1, J1, J6]) | ((with_reducible first | refine Q4 (fun hsp => ?_) fun hsp => ?_ | refine Q3 (fun hsp => ?_) fun hsp => ?_) <;> (try simp only [spB, spD, spC] at hsp)) | (with_reducible refine rF ?_))
   refine wE ?_
   simp only [go_sem, B8j]

theorem D2q (v : Int) (h1 : -9223372036854775808 ≤ v) (h2 : v < 9223372036854775808) : Meets Tryz.prog E0 B86 [I v] [] (NO (Y8 false v)) [] := by
 refine X6 D3s ?_
 have e := A24 false v h1
 simp only [Bool.false_eq_true, if_false] at e
 by_cases h : -9223372036854775808 < v
 ·rw [B4t h]
  rw [decide_eq_true h] at e
  repeat' (first | (with_reducible first | refine A6 e ?_ | refine A6 H5 ?_) | (simp only [go_sem, A8n, *]) | (simp (disch := omega) only [A8n, A5, C4, C1, J1, J6]) | ((with_reducible first | refine Q4 (fun hsp => ?_) fun hsp => ?_ | refine Q3 (fun hsp => ?_) fun hsp => ?_) <;> (try simp only [spB, spD, spC] at hsp)) | (with_reducible refine rF ?_))
  all_goals
   refine wE ?_
   simp only [go_sem, B8c]
   rfl
 ·rw [E0k (by omega)]
  rw [decide_eq_false h] at e
  repeat' (first | (with_reducible first | refine A6 e ?_ | refine A6 H5 ?_) | (simp only [go_sem, A8n, *]) | (simp (disch := omega) only [A8n, A5, C4, C1, J1, J6]) | ((with_reducible first | refine Q4 (fun hsp => ?_) fun hsp => ?_ | refine Q3 (fun hsp => ?_) fun hsp => ?_) <;> (try simp only [spB, spD, spC] at hsp)) | (with_reducible refine rF ?_))
  all_goals
   refine wE ?_
   simp only [go_sem, B8c]
   rfl

theorem A0n (v : Int) (h1 : -9223372036854775808 ≤ v) (h2 : v < 9223372036854775808) : Meets Tryz.prog E0 A1r [I v] [] (U ((v.natAbs : Nat) : Int)) [] := by
 refine X6 C9l ?_
 by_cases h : v < 0
 ·have g1 : IntKind.u64.wrap (0 - (v + 1)) = ((v.natAbs - 1 : Nat) : Int) := by rw [A0t]; omega
  have g2 : ((v.natAbs - 1 + 1) % 18446744073709551616 : Nat) = v.natAbs := by omega
  repeat' (first | (simp only [go_sem, A56, g1, g2, *]) | (simp (disch := omega) only [A56, g1, g2, A5, C4, C1, J1, J6]) | ((with_reducible first | refine Q4 (fun hsp => ?_) fun hsp => ?_ | refine Q3 (fun hsp => ?_) fun hsp => ?_) <;> (try simp only [spB, spD, spC] at hsp)) | (with_reducible refine rF ?_))
  refine wE ?_
  simp only [go_sem, B2v, g2]
 ·have g1 : IntKind.u64.wrap v = ((v.natAbs : Nat) : Int) := by rw [A0t]; omega
  repeat' (first | (simp only [go_sem, A56, g1, *]) | (simp (disch := omega) only [A56, g1, A5, C4, C1, J1, J6]) | ((with_reducible first | refine Q4 (fun hsp => ?_) fun hsp => ?_ | refine Q3 (fun hsp => ?_) fun hsp => ?_) <;> (try simp only [spB, spD, spC] at hsp)) | (with_reducible refine rF ?_))
  refine wE ?_
  simp only [go_sem, B2v, *]

theorem A9a (n : Nat) (b : Bool) (h : n < 18446744073709551616) : Meets Tryz.prog E0 A2r [U n, Bo b] [] (NO (B81 n b)) [] := by
 refine X6 C4w ?_
 by_cases hn : n < 9223372036854775808
 ·have e0 : decide (9223372036854775807 < n) = false := decide_eq_false (by omega)
  have f1 : IntKind.i64.wrap (n : Int) = n := A5 (by omega) (by omega)
  have f2 : IntKind.i64.wrap (0 - (n : Int)) = -n := by rw [A5 (by omega) (by omega)]; omega
  cases b
  ·rw [C8z hn]
   repeat' (first | (simp only [go_sem, Z9, *]) | (simp (disch := omega) only [Z9, A5, C4, C1, J1, J6]) | ((with_reducible first | refine Q4 (fun hsp => ?_) fun hsp => ?_ | refine Q3 (fun hsp => ?_) fun hsp => ?_) <;> (try simp only [spB, spD, spC] at hsp)) | (with_reducible refine rF ?_))
   refine wE ?_
   simp only [go_sem, A5d]
   rfl
  ·rw [C90 hn]
   repeat' (first | (simp only [go_sem, Z9, *]) | (simp (disch := omega) only [Z9, A5, C4, C1, J1, J6]) | ((with_reducible first | refine Q4 (fun hsp => ?_) fun hsp => ?_ | refine Q3 (fun hsp => ?_) fun hsp => ?_) <;> (try simp only [spB, spD, spC] at hsp)) | (with_reducible refine rF ?_))
   refine wE ?_
   simp only [go_sem, A5d]
   rfl
 ·have e0 : decide (9223372036854775807 < n) = true := decide_eq_true (by omega)
  rw [C9q (by omega)]
  repeat' (first | (with_reducible first | refine A6 H5 ?_) | (simp only [go_sem, Z9, *]) | (simp (disch := omega) only [Z9, A5, C4, C1, J1, J6]) | ((with_reducible first | refine Q4 (fun hsp => ?_) fun hsp => ?_ | refine Q3 (fun hsp => ?_) fun hsp => ?_) <;> (try simp only [spB, spD, spC] at hsp)) | (with_reducible refine rF ?_))
  refine wE ?_
  simp only [go_sem, A5d]
  rfl

theorem D1g (v : Int) (h1 : -9223372036854775808 ≤ v) (h2 : v < 9223372036854775808) : Meets Tryz.prog E0 B5b [I v] [] (NO (A5m (v * 1000000))) [] := by
 refine X6 D1n ?_
 have e0 : IntKind.i64.wrap v = v := A5 (by omega) (by omega)
 by_cases hw : v.natAbs * 1000000 < 18446744073709551616
 ·have e1 : decide (v.natAbs * 1000000 / 18446744073709551616 = 0) = true := decide_eq_true (by omega)
  have hs : B81 (v.natAbs * 1000000 % 18446744073709551616) (decide (v < 0)) = A5m (v * 1000000) := D22 (by split <;> (rename_i h; simp at h; omega))
  rw [← hs]
  clear hs hw
  repeat' (first | (with_reducible first | refine A6 (A0n v h1 h2) ?_ | refine A6 (B03 v.natAbs 1000000 (by omega) (by omega)) ?_ | refine A6 (A9a _ _ (by omega)) ?_) | (simp only [go_sem, A6q, *]) | (simp (disch := omega) only [A6q, A5, C4, C1, J1, J6]) | ((with_reducible first | refine Q4 (fun hsp => ?_) fun hsp => ?_ | refine Q3 (fun hsp => ?_) fun hsp => ?_) <;> (try simp only [spB, spD, spC] at hsp)) | (with_reducible refine rF ?_))
  refine wE ?_
  simp only [go_sem, B4x]
 ·have e1 : decide (v.natAbs * 1000000 / 18446744073709551616 = 0) = false := decide_eq_false (by omega)
  rw [B5h (by omega)]
  clear hw
  repeat' (first | (with_reducible first | refine A6 (A0n v h1 h2) ?_ | refine A6 (B03 v.natAbs 1000000 (by omega) (by omega)) ?_ | refine A6 H5 ?_) | (simp only [go_sem, A6q, *]) | (simp (disch := omega) only [A6q, A5, C4, C1, J1, J6]) | ((with_reducible first | refine Q4 (fun hsp => ?_) fun hsp => ?_ | refine Q3 (fun hsp => ?_) fun hsp => ?_) <;> (try simp only [spB, spD, spC] at hsp)) | (with_reducible refine rF ?_))
  refine wE ?_
  simp only [go_sem, B4x]
  rfl

theorem D19 (x y : Bool) (v u : Int) (h1 : -9223372036854775808 ≤ v) (h2 : v < 9223372036854775808) (h3 : -9223372036854775808 ≤ u) (h4 : u < 9223372036854775808) : Meets Tryz.prog E0 A9t [NV x v, NV y u] [] (NO (A71 (Y8 x v) (Y8 y u))) [] := by
 refine X6 D15 ?_
 cases ha : okN x v
 ·rw [V4 ha]
  repeat' (first | (with_reducible first | refine A6 (E6 _ _ (by omega)) ?_ | refine A6 H5 ?_) | (simp only [go_sem, A0u, *]) | (simp (disch := omega) only [A0u, A5, C4, C1, J1, J6]) | ((with_reducible first | refine Q4 (fun hsp => ?_) fun hsp => ?_ | refine Q3 (fun hsp => ?_) fun hsp => ?_) <;> (try simp only [spB, spD, spC] at hsp)) | (with_reducible refine rF ?_))
  all_goals
   refine wE ?_
   simp only [go_sem, A6z]
   rfl
 ·obtain ⟨e1, rfl, e3⟩ := S9 ha
  cases hb : okN y u
  ·rw [e1, V4 hb]
   repeat' (first | (with_reducible first | refine A6 (E6 _ _ (by omega)) ?_ | refine A6 H5 ?_) | (simp only [go_sem, A0u, *]) | (simp (disch := omega) only [A0u, A5, C4, C1, J1, J6]) | ((with_reducible first | refine Q4 (fun hsp => ?_) fun hsp => ?_ | refine Q3 (fun hsp => ?_) fun hsp => ?_) <;> (try simp only [spB, spD, spC] at hsp)) | (with_reducible refine rF ?_))
   all_goals
    refine wE ?_
    simp only [go_sem, A6z]
    rfl
  ·obtain ⟨g1, rfl, g3⟩ := S9 hb
   rw [e1, g1]
   have hm : (v.natAbs + u.natAbs) % 18446744073709551616 = v.natAbs + u.natAbs := by omega
   show W _ _ _ (A7q _ _ (NO (A5m (v + u))) _) _ _ _ _
   have hsg : (decide (v < 0) == decide (u < 0)) = true → B81 (v.natAbs + u.natAbs) (decide (v < 0)) = A5m (v + u) := by
    intro h
    simp only [beq_iff_eq, decide_eq_decide] at h
    exact D22 (by split <;> (rename_i h; simp at h; omega))
   clear e1 g1
   cases hd : (decide (v < 0) == decide (u < 0))
   ·clear hsg
    have hr : -9223372036854775808 < v + u ∧ v + u < 9223372036854775808 := by
     by_cases h5 : v < 0 <;> by_cases h6 : u < 0 <;> simp [h5, h6] at hd <;> omega
    have ew : IntKind.i64.wrap (v + u) = v + u := A5 (by omega) (by omega)
    rw [B6k hr.1 hr.2]
    clear hr
    repeat' (first | (with_reducible first | refine A6 (E6 _ _ (by omega)) ?_) | (simp only [go_sem, A0u, hd, *]) | (simp (disch := omega) only [A0u, hd, A5, C4, C1, J1, J6]) | ((with_reducible first | refine Q4 (fun hsp => ?_) fun hsp => ?_ | refine Q3 (fun hsp => ?_) fun hsp => ?_) <;> (try simp only [spB, spD, spC] at hsp)) | (with_reducible refine rF ?_))
    refine wE ?_
    simp only [go_sem, A6z]
    rfl
   ·rw [← hsg hd]
    clear hsg
    repeat' (first | (with_reducible first | refine A6 (E6 _ _ (by omega)) ?_ | refine A6 (A0n v h1 h2) ?_ | refine A6 (A0n u h3 h4) ?_ | refine A6 (A9a _ _ (by omega)) ?_) | (simp only [go_sem, A0u, hd, *]) | (simp (disch := omega) only [A0u, hd, A5, C4, C1, J1, J6]) | ((with_reducible first | refine Q4 (fun hsp => ?_) fun hsp => ?_ | refine Q3 (fun hsp => ?_) fun hsp => ?_) <;> (try simp only [spB, spD, spC] at hsp)) | (with_reducible refine rF ?_))
    refine wE ?_
    simp only [go_sem, A6z]

theorem D0s (x y : Bool) (v u : Int) (h1 : -9223372036854775808 ≤ v) (h2 : v < 9223372036854775808) (h3 : -9223372036854775808 ≤ u) (h4 : u < 9223372036854775808) : Meets Tryz.prog E0 B5d [NV x v, NV y u] [] (NO (D77 (Y8 x v) (Y8 y u))) [] := by
 refine X6 D2i ?_
 cases ha : okN x v
 ·rw [V4 ha]
  repeat' (first | (with_reducible first | refine A6 (E6 _ _ (by omega)) ?_ | refine A6 H5 ?_) | (simp only [go_sem, X0, *]) | (simp (disch := omega) only [X0, A5, C4, C1, J1, J6]) | ((with_reducible first | refine Q4 (fun hsp => ?_) fun hsp => ?_ | refine Q3 (fun hsp => ?_) fun hsp => ?_) <;> (try simp only [spB, spD, spC] at hsp)) | (with_reducible refine rF ?_))
  all_goals
   refine wE ?_
   simp only [go_sem, A4j]
   rfl
 ·obtain ⟨e1, rfl, e3⟩ := S9 ha
  cases hb : okN y u
  ·rw [e1, V4 hb]
   repeat' (first | (with_reducible first | refine A6 (E6 _ _ (by omega)) ?_ | refine A6 (E6 _ _ (by omega)) ?_ | refine A6 H5 ?_) | (simp only [go_sem, X0, *]) | (simp (disch := omega) only [X0, A5, C4, C1, J1, J6]) | ((with_reducible first | refine Q4 (fun hsp => ?_) fun hsp => ?_ | refine Q3 (fun hsp => ?_) fun hsp => ?_) <;> (try simp only [spB, spD, spC] at hsp)) | (with_reducible refine rF ?_))
   all_goals
    refine wE ?_
    simp only [go_sem, A4j]
    rfl
  ·obtain ⟨g1, rfl, g3⟩ := S9 hb
   rw [e1, g1]
   have hm : v.natAbs * 1000000 < 340282366920938463463374607431768211456 := by omega
   have hne : (neg v != neg u) = !(decide (v < 0) == decide (u < 0)) := rfl
   unfold D77
   simp only [hne]
   by_cases h0 : u = 0
   ·have q1 : C1q v.natAbs 1000000 u.natAbs (!(decide (v < 0) == decide (u < 0))) = none := if_pos (by omega)
    rw [q1]
    have e0 : decide (u = 0) = true := by simp [h0]
    repeat' (first | (with_reducible first | refine A6 (E6 _ _ (by omega)) ?_ | refine A6 (E6 _ _ (by omega)) ?_ | refine A6 H5 ?_) | (simp only [go_sem, X0, *]) | (simp (disch := omega) only [X0, A5, C4, C1, J1, J6]) | ((with_reducible first | refine Q4 (fun hsp => ?_) fun hsp => ?_ | refine Q3 (fun hsp => ?_) fun hsp => ?_) <;> (try simp only [spB, spD, spC] at hsp)) | (with_reducible refine rF ?_))
    all_goals
     refine wE ?_
     simp only [go_sem, A4j]
     rfl
   ·have h0' : ¬ u.natAbs = 0 := by omega
    by_cases h1' : 18446744073709551616 ≤ rnd (v.natAbs * 1000000) u.natAbs
    ·have q1 : C1q v.natAbs 1000000 u.natAbs (!(decide (v < 0) == decide (u < 0))) = none := by simp only [C1q]; rw [if_neg h0', B81, if_neg (by omega)]
     have q2 : A0f (v.natAbs * 1000000) u.natAbs = 3 := by simp only [A0f, if_neg h0', if_pos h1']
     rw [q1]
     repeat' (first | (with_reducible first | refine A6 (E6 _ _ (by omega)) ?_ | refine A6 (E6 _ _ (by omega)) ?_ | refine A6 (A0n v h1 h2) ?_ | refine A6 (A0n u h3 h4) ?_ | refine A6 (B03 _ _ (by omega) (by omega)) ?_ | refine A6 (B73 _ _ hm (by omega)) ?_ | refine A6 H5 ?_) | (simp only [go_sem, X0, q2, *]) | (simp (disch := omega) only [X0, q2, A5, C4, C1, J1, J6]) | ((with_reducible first | refine Q4 (fun hsp => ?_) fun hsp => ?_ | refine Q3 (fun hsp => ?_) fun hsp => ?_) <;> (try simp only [spB, spD, spC] at hsp)) | (with_reducible refine rF ?_))
     refine wE ?_
     simp only [go_sem, A4j]
     rfl
    ·have q1 : C1q v.natAbs 1000000 u.natAbs (!(decide (v < 0) == decide (u < 0))) = B81 (rnd (v.natAbs * 1000000) u.natAbs) (!(decide (v < 0) == decide (u < 0))) := by simp only [C1q]; rw [if_neg h0']
     have q2 : A0f (v.natAbs * 1000000) u.natAbs = 0 := by simp only [A0f, if_neg h0', if_neg h1']
     have q3 : A3m (v.natAbs * 1000000) u.natAbs = rnd (v.natAbs * 1000000) u.natAbs := by simp only [A3m, if_neg h0', if_neg h1']
     rw [q1]
     repeat' (first | (with_reducible first | refine A6 (E6 _ _ (by omega)) ?_ | refine A6 (E6 _ _ (by omega)) ?_ | refine A6 (A0n v h1 h2) ?_ | refine A6 (A0n u h3 h4) ?_ | refine A6 (B03 _ _ (by omega) (by omega)) ?_ | refine A6 (B73 _ _ hm (by omega)) ?_ | refine A6 (A9a _ _ (by omega)) ?_) | (simp only [go_sem, X0, q2, q3, *]) | (simp (disch := omega) only [X0, q2, q3, A5, C4, C1, J1, J6]) | ((with_reducible first | refine Q4 (fun hsp => ?_) fun hsp => ?_ | refine Q3 (fun hsp => ?_) fun hsp => ?_) <;> (try simp only [spB, spD, spC] at hsp)) | (with_reducible refine rF ?_))
     refine wE ?_
     simp only [go_sem, A4j]

theorem C27 (x y : Bool) (v u : Int) (h1 : -9223372036854775808 ≤ v) (h3 : -9223372036854775808 ≤ u) : Meets Tryz.prog E0 B0c [NV x v, NV y u] [] (I (D3h (Y8 x v) (Y8 y u))) [] := by
 refine X6 D1o ?_
 cases ha : okN x v <;> cases hb : okN y u
 ·rw [V4 ha, V4 hb]
  repeat' (first | (with_reducible first | refine A6 (E6 _ _ (by omega)) ?_ | refine A6 (E6 _ _ (by omega)) ?_) | (simp only [go_sem, A0l, *]) | (simp (disch := omega) only [A0l, A5, C4, C1, J1, J6]) | ((with_reducible first | refine Q4 (fun hsp => ?_) fun hsp => ?_ | refine Q3 (fun hsp => ?_) fun hsp => ?_) <;> (try simp only [spB, spD, spC] at hsp)) | (with_reducible refine rF ?_))
  all_goals
   refine wE ?_
   simp only [go_sem, A6m]
   rfl
 ·rw [V4 ha, (S9 hb).1]
  repeat' (first | (with_reducible first | refine A6 (E6 _ _ (by omega)) ?_ | refine A6 (E6 _ _ (by omega)) ?_) | (simp only [go_sem, A0l, *]) | (simp (disch := omega) only [A0l, A5, C4, C1, J1, J6]) | ((with_reducible first | refine Q4 (fun hsp => ?_) fun hsp => ?_ | refine Q3 (fun hsp => ?_) fun hsp => ?_) <;> (try simp only [spB, spD, spC] at hsp)) | (with_reducible refine rF ?_))
  all_goals
   refine wE ?_
   simp only [go_sem, A6m]
   rfl
 ·rw [(S9 ha).1, V4 hb]
  repeat' (first | (with_reducible first | refine A6 (E6 _ _ (by omega)) ?_ | refine A6 (E6 _ _ (by omega)) ?_) | (simp only [go_sem, A0l, *]) | (simp (disch := omega) only [A0l, A5, C4, C1, J1, J6]) | ((with_reducible first | refine Q4 (fun hsp => ?_) fun hsp => ?_ | refine Q3 (fun hsp => ?_) fun hsp => ?_) <;> (try simp only [spB, spD, spC] at hsp)) | (with_reducible refine rF ?_))
  all_goals
   refine wE ?_
   simp only [go_sem, A6m]
   rfl
 ·rw [(S9 ha).1, (S9 hb).1]
  unfold D3h
  simp only
  repeat' (first | (with_reducible first | refine A6 (E6 _ _ (by omega)) ?_ | refine A6 (E6 _ _ (by omega)) ?_) | (simp only [go_sem, A0l, *]) | (simp (disch := omega) only [A0l, A5, C4, C1, J1, J6]) | ((with_reducible first | refine Q4 (fun hsp => ?_) fun hsp => ?_ | refine Q3 (fun hsp => ?_) fun hsp => ?_) <;> (try simp only [spB, spD, spC] at hsp)) | (with_reducible refine rF ?_))
  all_goals
   refine wE ?_
   simp only [go_sem, A6m, *]

theorem C8x (x y : Bool) (v u : Int) (h1 : -9223372036854775808 ≤ v) (h3 : -9223372036854775808 ≤ u) : Meets Tryz.prog E0 A83 [NV x v, NV y u] [] (NO (A31 (Y8 x v) (Y8 y u))) [] := by
 refine X6 C8q ?_
 cases ha : okN x v <;> cases hb : okN y u
 ·rw [V4 ha, V4 hb]
  repeat' (first | (with_reducible first | refine A6 (E6 _ _ (by omega)) ?_ | refine A6 (E6 _ _ (by omega)) ?_ | refine A6 H5 ?_) | (simp only [go_sem, Z2, *]) | (simp (disch := omega) only [Z2, A5, C4, C1, J1, J6]) | ((with_reducible first | refine Q4 (fun hsp => ?_) fun hsp => ?_ | refine Q3 (fun hsp => ?_) fun hsp => ?_) <;> (try simp only [spB, spD, spC] at hsp)) | (with_reducible refine rF ?_))
  all_goals
   refine wE ?_
   simp only [go_sem, A5f]
   rfl
 ·obtain ⟨g1, rfl, g3⟩ := S9 hb
  rw [V4 ha, g1]
  repeat' (first | (with_reducible first | refine A6 (E6 _ _ (by omega)) ?_ | refine A6 (E6 _ _ (by omega)) ?_) | (simp only [go_sem, Z2, *]) | (simp (disch := omega) only [Z2, A5, C4, C1, J1, J6]) | ((with_reducible first | refine Q4 (fun hsp => ?_) fun hsp => ?_ | refine Q3 (fun hsp => ?_) fun hsp => ?_) <;> (try simp only [spB, spD, spC] at hsp)) | (with_reducible refine rF ?_))
  all_goals
   refine wE ?_
   simp only [go_sem, A5f]
   rfl
 ·obtain ⟨g1, rfl, g3⟩ := S9 ha
  rw [g1, V4 hb]
  repeat' (first | (with_reducible first | refine A6 (E6 _ _ (by omega)) ?_ | refine A6 (E6 _ _ (by omega)) ?_) | (simp only [go_sem, Z2, *]) | (simp (disch := omega) only [Z2, A5, C4, C1, J1, J6]) | ((with_reducible first | refine Q4 (fun hsp => ?_) fun hsp => ?_ | refine Q3 (fun hsp => ?_) fun hsp => ?_) <;> (try simp only [spB, spD, spC] at hsp)) | (with_reducible refine rF ?_))
  all_goals
   refine wE ?_
   simp only [go_sem, A5f]
   rfl
 ·obtain ⟨g1, rfl, g3⟩ := S9 ha
  obtain ⟨e1, rfl, e3⟩ := S9 hb
  rw [e1, g1]
  unfold A31
  simp only
  repeat' (first | (with_reducible first | refine A6 (E6 _ _ (by omega)) ?_ | refine A6 (E6 _ _ (by omega)) ?_) | (simp only [go_sem, Z2, *]) | (simp (disch := omega) only [Z2, A5, C4, C1, J1, J6]) | ((with_reducible first | refine Q4 (fun hsp => ?_) fun hsp => ?_ | refine Q3 (fun hsp => ?_) fun hsp => ?_) <;> (try simp only [spB, spD, spC] at hsp)) | (with_reducible refine rF ?_))
  all_goals
   refine wE ?_
   simp only [go_sem, A5f, *]
   rfl

theorem C8i (x y : Bool) (v u : Int) (h1 : -9223372036854775808 ≤ v) (h3 : -9223372036854775808 ≤ u) : Meets Tryz.prog E0 A82 [NV x v, NV y u] [] (NO (A2x (Y8 x v) (Y8 y u))) [] := by
 refine X6 C9s ?_
 cases ha : okN x v <;> cases hb : okN y u
 ·rw [V4 ha, V4 hb]
  repeat' (first | (with_reducible first | refine A6 (E6 _ _ (by omega)) ?_ | refine A6 (E6 _ _ (by omega)) ?_ | refine A6 H5 ?_) | (simp only [go_sem, Y5, *]) | (simp (disch := omega) only [Y5, A5, C4, C1, J1, J6]) | ((with_reducible first | refine Q4 (fun hsp => ?_) fun hsp => ?_ | refine Q3 (fun hsp => ?_) fun hsp => ?_) <;> (try simp only [spB, spD, spC] at hsp)) | (with_reducible refine rF ?_))
  all_goals
   refine wE ?_
   simp only [go_sem, A5j]
   rfl
 ·obtain ⟨g1, rfl, g3⟩ := S9 hb
  rw [V4 ha, g1]
  repeat' (first | (with_reducible first | refine A6 (E6 _ _ (by omega)) ?_ | refine A6 (E6 _ _ (by omega)) ?_) | (simp only [go_sem, Y5, *]) | (simp (disch := omega) only [Y5, A5, C4, C1, J1, J6]) | ((with_reducible first | refine Q4 (fun hsp => ?_) fun hsp => ?_ | refine Q3 (fun hsp => ?_) fun hsp => ?_) <;> (try simp only [spB, spD, spC] at hsp)) | (with_reducible refine rF ?_))
  all_goals
   refine wE ?_
   simp only [go_sem, A5j]
   rfl
 ·obtain ⟨g1, rfl, g3⟩ := S9 ha
  rw [g1, V4 hb]
  repeat' (first | (with_reducible first | refine A6 (E6 _ _ (by omega)) ?_ | refine A6 (E6 _ _ (by omega)) ?_) | (simp only [go_sem, Y5, *]) | (simp (disch := omega) only [Y5, A5, C4, C1, J1, J6]) | ((with_reducible first | refine Q4 (fun hsp => ?_) fun hsp => ?_ | refine Q3 (fun hsp => ?_) fun hsp => ?_) <;> (try simp only [spB, spD, spC] at hsp)) | (with_reducible refine rF ?_))
  all_goals
   refine wE ?_
   simp only [go_sem, A5j]
   rfl
 ·obtain ⟨g1, rfl, g3⟩ := S9 ha
  obtain ⟨e1, rfl, e3⟩ := S9 hb
  rw [e1, g1]
  unfold A2x
  simp only
  repeat' (first | (with_reducible first | refine A6 (E6 _ _ (by omega)) ?_ | refine A6 (E6 _ _ (by omega)) ?_) | (simp only [go_sem, Y5, *]) | (simp (disch := omega) only [Y5, A5, C4, C1, J1, J6]) | ((with_reducible first | refine Q4 (fun hsp => ?_) fun hsp => ?_ | refine Q3 (fun hsp => ?_) fun hsp => ?_) <;> (try simp only [spB, spD, spC] at hsp)) | (with_reducible refine rF ?_))
  all_goals
   refine wE ?_
   simp only [go_sem, A5j, *]
   rfl
/-- A number, or nothing. -/
abbrev Num := Bool × Int
def D7 (n : Num) : List T := [.v (.bool n.1), .v (.int .i64 n.2)]
abbrev M6 (l : List Num) : AV := .t (.sl 2 (l.map D7))

theorem C8u (a b : List Num) (hl : a.length ≤ maxLen) : Meets Tryz.prog E0 B37 [M6 a, M6 b] [] (Bo (decide (a = b))) [] := by
 refine X6 C9m ?_
 unfold maxLen at hl
 simp only [go_sem, C0m]
 refine G3 rfl (fun h => ?_) (fun h => ?_)
 ·simp at h
  simp only [go_sem]
  refine wE ?_
  simp only [go_sem, A84]
  have : ¬ a = b := fun e => h (by rw [e])
  simp [this]
 ·simp at h
  simp only [go_sem]
  refine C8 (fun i : Nat => a.length - i) (fun i => i ≤ a.length ∧ (a = b ↔ a.drop i = b.drop i))
   (fun i => [(0, M6 a), (1, M6 b), (5, I i)]) (fun i => []) 0 (by simp) ?_ ?_
  ·exact sR0
  ·rintro i ⟨hi, hr⟩
   simp only [go_sem]
   refine G3 rfl (fun h1 => ?_) (fun h1 => ?_)
   ·simp at h1
    obtain ⟨x, hx⟩ := F0 h1
    obtain ⟨y, hy⟩ := F0 (show i < b.length by omega)
    rw [A05 hx, A05 hy] at hr
    have ei : IntKind.i64.wrap ((i : Int) + 1) = ((i + 1 : Nat) : Int) := by rw [A5 (by omega) (by omega)]; omega
    simp only [go_sem, hx, hy, D7]
    refine G3 rfl (fun h2 => ?_) (fun h2 => ?_)
    ·simp only [go_sem]
     refine wE ?_
     simp only [go_sem, A84]
     have : ¬ a = b := by
      rw [hr]; intro e
      injection e with e1 e2
      subst e1; simp at h2
     simp [this]
    ·simp at h2
     simp only [go_sem, ei]
     refine C3 (i + 1) (by first | omega | (simp only; omega)) ⟨by first | omega | (simp only; omega), by rw [hr]; simp [Prod.ext_iff, h2]⟩ ?_
     exact sR0
   ·simp at h1
    simp only [go_sem]
    refine wE ?_
    simp only [go_sem, A84]
    have e : i = a.length := by omega
    subst e
    have : a = b := hr.2 (by rw [List.drop_eq_nil_of_le (Nat.le_refl _), List.drop_eq_nil_of_le (by omega)])
    simp [this]

abbrev F4 := List UInt8 × Int × Int × List Num
def U4 (s : F4) : List T := [.v (.string (D6 s.1)), .v (.int .i64 s.2.1), .v (.int .i64 s.2.2.1), .sl 2 (s.2.2.2.map D7)]

/-- A number's cells can be. -/
def inN (n : Num) : Prop := -9223372036854775808 ≤ n.2 ∧ n.2 < 9223372036854775808
def inS (s : F4) : Prop := ∀ n ∈ s.2.2.2, inN n

/-- The values that count. -/
def kvM (l : List Num) : List Int := (l.filter fun n => okN n.1 n.2).map (·.2)

theorem D7u {l : List Num} (h : ∀ n ∈ l, inN n) : ∀ x ∈ kvM l, -9223372036854775808 < x ∧ x < 9223372036854775808 := by
 intro x hx
 unfold kvM at hx
 obtain ⟨n, hn, rfl⟩ := List.mem_map.1 hx
 obtain ⟨h1, h2⟩ := List.mem_filter.1 hn
 have := (S9 h2).2.2
 exact ⟨this, (h n h1).2⟩

def V3 (two : Option Int → Option Int → Option Int) (a : Option Int) (k : List Int) : Option Int := k.foldl (fun a y => two a (some y)) a
def B9d (two : Option Int → Option Int → Option Int) : List Int → Option Int
 | [] => none
 | x :: l => V3 two (some x) l

/-- What values make. -/
def B95 (w : Int) (k : List Int) : Option Int :=
 if k = [] then none else if w = 1 then D77 (B9d A71 k) (A5m ((k.length : Int) * 1000000)) else if w = 2 then B9d A71 k else if w = 3 then B9d A31 k else if w = 4 then B9d A2x k else if w = 5 then k.getLast? else none
def T6 (w : Int) (l : List Num) : Option Int := B95 w (kvM l)

theorem B8z {z : Int} (h : -9223372036854775808 < z ∧ z < 9223372036854775808) : Rt (some z) := fun y hy => by injection hy with hy; subst hy; exact h
theorem B60 : Rt none := fun y hy => by cases hy
theorem B3f (z : Int) : Rt (A5m z) := fun _ h => D3j h

theorem C5f (a b : Option Int) : Rt (A71 a b) := by
 unfold A71
 split
 ·exact B3f _
 ·exact B60
theorem C9d {a b : Option Int} (ha : Rt a) (hb : Rt b) : Rt (A31 a b) := by
 unfold A31
 split
 ·split
  ·exact ha
  ·exact hb
 ·exact ha
 ·exact hb
theorem C9e {a b : Option Int} (ha : Rt a) (hb : Rt b) : Rt (A2x a b) := by
 unfold A2x
 split
 ·split
  ·exact ha
  ·exact hb
 ·exact ha
 ·exact hb

theorem B66 {two : Option Int → Option Int → Option Int} (h2 : ∀ a b, Rt a → Rt b → Rt (two a b)) : ∀ (k : List Int) (a : Option Int), Rt a → (∀ x ∈ k, -9223372036854775808 < x ∧ x < 9223372036854775808) → Rt (V3 two a k)
 | [], a, ha, _ => ha
 | x :: k, a, ha, hk => B66 h2 k (two a (some x)) (h2 _ _ ha (B8z (hk x (by simp)))) (fun y hy => hk y (by simp [hy]))

theorem D88 {x : Int} (h : -9223372036854775808 < x ∧ x < 9223372036854775808) (k : List Int) : V3 A71 (some 0) (x :: k) = B9d A71 (x :: k) := by
 show V3 A71 (A71 (some 0) (some x)) k = V3 A71 (some x) k
 have : A71 (some 0) (some x) = some x := by
  show A5m (0 + x) = some x
  rw [Int.zero_add]; exact B6k h.1 h.2
 rw [this]
theorem D5p (x : Int) (k : List Int) : V3 A31 (some x) (x :: k) = B9d A31 (x :: k) := by
 show V3 A31 (A31 (some x) (some x)) k = V3 A31 (some x) k
 have : A31 (some x) (some x) = some x := by simp [A31]
 rw [this]
theorem D5h (x : Int) (k : List Int) : V3 A2x (some x) (x :: k) = B9d A2x (x :: k) := by
 show V3 A2x (A2x (some x) (some x)) k = V3 A2x (some x) k
 have : A2x (some x) (some x) = some x := by simp [A2x]
 rw [this]

theorem C4f {two : Option Int → Option Int → Option Int} (h2 : ∀ a b, Rt a → Rt b → Rt (two a b)) : ∀ (k : List Int), (∀ x ∈ k, -9223372036854775808 < x ∧ x < 9223372036854775808) → Rt (B9d two k)
 | [], _ => B60
 | x :: k, h => B66 h2 k (some x) (B8z (h x (by simp))) (fun y hy => h y (by simp [hy]))

theorem C79 (two : Option Int → Option Int → Option Int) (a : Option Int) (k : List Int) (x : Int) : V3 two a (k ++ [x]) = two (V3 two a k) (some x) := by
 unfold V3; rw [List.foldl_append]; rfl

@[simp] theorem E39 (l : List T) : B5 (l.map AV.t) = [] := by
 induction l with
 | nil => rfl
 | cons x l ih => simp only [List.map_cons, B5, AV.ids, ih]; rfl
@[simp] theorem E34 (s : Nat → Option Ob) (sn : List Nat) (π : Nat → Nat) (l : List T) : G2 s sn π (l.map AV.t) (l.map AV.t) := by
 induction l with
 | nil => simp only [List.map_nil, G2]
 | cons x l ih =>
  simp only [List.map_cons, G2]
  refine ⟨?_, ih⟩
  cases x <;> simp [G1]
@[simp] theorem E32 (l : List T) : (l.map AV.t).all AV.one = true := by
 rw [List.all_map, List.all_eq_true]; intro x _; rfl

end Go.Proofs.YtgmpceijcdimkaaGreatDoor
namespace Go.Proofs.YtgmpceijcdimkaaGreatDoor
open Go Go.Sx Go.RowKit Go.Maps Go.Shelf

/-- The table of calls: a word, its kind, its way. -/
def A46 : List (List UInt8 × Int × Int) := [([108, 105, 109, 105, 116], 1, 0), ([103, 114, 111, 117, 112], 1, 0), ([115, 111, 114, 116, 66, 121, 78, 97, 109, 101], 1, 0), ([104, 105, 103, 104, 101, 115, 116, 65, 118, 101, 114, 97, 103, 101], 2, 1), ([104, 105, 103, 104, 101, 115, 116, 77, 97, 120], 2, 4), ([104, 105, 103, 104, 101, 115, 116, 67, 117, 114, 114, 101, 110, 116], 2, 5), ([115, 111, 114, 116, 66, 121, 84, 111, 116, 97, 108], 2, 2), ([115, 111, 114, 116, 66, 121, 77, 97, 120, 105, 109, 97], 2, 4), ([108, 111, 119, 101, 115, 116, 65, 118, 101, 114, 97, 103, 101], 3, 1), ([108, 111, 119, 101, 115, 116, 67, 117, 114, 114, 101, 110, 116], 3, 5), ([115, 111, 114, 116, 66, 121, 77, 105, 110, 105, 109, 97], 3, 3), ([97, 118, 101, 114, 97, 103, 101, 65, 98, 111, 118, 101], 4, 1), ([109, 97, 120, 105, 109, 117, 109, 65, 98, 111, 118, 101], 4, 4), ([109, 105, 110, 105, 109, 117, 109, 65, 98, 111, 118, 101], 4, 3), ([99, 117, 114, 114, 101, 110, 116, 65, 98, 111, 118, 101], 4, 5), ([97, 118, 101, 114, 97, 103, 101, 66, 101, 108, 111, 119], 5, 1), ([109, 97, 120, 105, 109, 117, 109, 66, 101, 108, 111, 119], 5, 4), ([109, 105, 110, 105, 109, 117, 109, 66, 101, 108, 111, 119], 5, 3), ([99, 117, 114, 114, 101, 110, 116, 66, 101, 108, 111, 119], 5, 5), ([103, 114, 101, 112], 6, 0), ([101, 120, 99, 108, 117, 100, 101], 6, 0), ([97, 108, 105, 97, 115], 7, 0), ([97, 108, 105, 97, 115, 66, 121, 78, 111, 100, 101], 7, 0)]

def B92 (p : Int × Int) : DataW Unit := .agg [.lit (.int .i64 p.1), .lit (.int .i64 p.2)]
def C7z (v : Value) : Option (DataW Unit × List MemPlace) := match v with
 | .agg a => (match a.toList with
  | [x, y] => (match x, y with
   | .int .i64 a, .int .i64 b => some (B92 (a, b), [])
   | _, _ => none)
  | _ => none)
 | _ => none

theorem D65 {v : Value} {z : Int × Int} {ps : List MemPlace} (h : C7z v = some (B92 z, ps)) : v = .agg #[.int .i64 z.1, .int .i64 z.2] := by
 unfold C7z at h
 split at h
 ·rename_i a
  split at h
  ·rename_i x y e
   split at h
   ·simp only [B92, Option.some.injEq, Prod.mk.injEq, DataW.agg.injEq, List.cons.injEq, DataW.lit.injEq, Lit.int.injEq, and_true, true_and] at h
    obtain ⟨⟨rfl, rfl⟩, _⟩ := h
    cases a
    simp only at e
    subst e
    rfl
   ·cases h
  ·cases h
 ·cases h

def C16 (t : List (List UInt8 × Int × Int)) : DataW Unit := t.foldl (fun D p => D.put (.string p.1) (B92 p.2)) (.map [])
def A52 (t : List (List UInt8 × Int × Int)) (l : List UInt8) : Option (Int × Int) := t.foldl (fun o p => if p.1 = l then some p.2 else o) none

theorem C1w (t : List (List UInt8 × Int × Int)) (p : List UInt8 × Int × Int) : C16 (t ++ [p]) = (C16 t).put (.string p.1) (B92 p.2) := by
 unfold C16; rw [List.foldl_append]; rfl
theorem C2h (t : List (List UInt8 × Int × Int)) (p : List UInt8 × Int × Int) (l : List UInt8) : A52 (t ++ [p]) l = if p.1 = l then some p.2 else A52 t l := by
 unfold A52; rw [List.foldl_append]; rfl

theorem D1m (t : List (List UInt8 × Int × Int)) : IsMap (C16 t) := by
 induction t using A3y with
 | h0 => exact ⟨[], rfl⟩
 | h1 l x ih => rw [C1w]; exact ih.put _ _

theorem D9m (t : List (List UInt8 × Int × Int)) (l : List UInt8) (z : Int × Int) : (C16 t).atKey (.string l) (B92 z) = B92 ((A52 t l).getD z) ∧ has (C16 t) (.string l) = (A52 t l).isSome := by
 induction t using A3y with
 | h0 => exact ⟨rfl, rfl⟩
 | h1 t x ih =>
  rw [C1w, C2h]
  by_cases h : x.1 = l
  ·rw [if_pos h, ← h]
   exact ⟨atKey_put_same (D1m t) (by simp [WideAt.IsKeyLit]) _ _, has_put_same (D1m t) (by simp [WideAt.IsKeyLit]) _⟩
  ·rw [if_neg h]
   have hne : Lit.string l ≠ Lit.string x.1 := fun e => h (by injection e with e; exact e.symm)
   rw [atKey_put_other hne, has_put_other hne]
   exact ih

/-- The map that the call makes, and what has stayed. -/
structure MapAt (w0 w : World) (b n : Nat) (D : DataW Unit) : Prop where
 own : w.ownsMap Tryz.prog 9 C7z b n D
 hb : w0.heap.size ≤ b
 os : w.os = w0.os
 tape : w.tape = w0.tape
 output : w.output = w0.output
 size : w0.heap.size ≤ w.heap.size
 block : ∀ k, k < w0.heap.size → w.heap[k]? = w0.heap[k]?
 bb : b = w0.heap.size + 1
 lt : w0.heap.size < w.heap.size
 cell : w.heap[w0.heap.size]? = some (.cells #[.int .i64 0, .int .i64 0] 53 (0, 0))

theorem MapAt.c0 {w0 w : World} {b n : Nat} {D : DataW Unit} (h : MapAt w0 w b n D) : w.cell? ⟨w0.heap.size, 0, none⟩ = some (.int .i64 0) ∧ w.cell? ⟨w0.heap.size, 1, none⟩ = some (.int .i64 0) ∧ w.frozen? ⟨w0.heap.size, 0, none⟩ = false ∧ w.frozen? ⟨w0.heap.size, 1, none⟩ = false := by
 simp [World.cell?, World.frozen?, h.cell]

theorem D43 (w0 : World) : MapAt w0 ((w0.alloc (.cells #[.int .i64 0, .int .i64 0] 53)).alloc (.map #[] 0)) (w0.heap.size + 1) 0 (C16 []) where
 own := by
  have h := World.ownsMap_made (w0.alloc (.cells #[.int .i64 0, .int .i64 0] 53)) Tryz.prog 9 C7z
  rw [show (w0.alloc (.cells #[.int .i64 0, .int .i64 0] 53)).heap.size = w0.heap.size + 1 by simp] at h
  exact h
 hb := by simp
 os := rfl
 tape := rfl
 output := rfl
 size := by simp; omega
 block := fun k hk => by rw [hao (w0.alloc _) _ k (by simp; omega), hao w0 _ k hk]
 bb := rfl
 lt := by simp; omega
 cell := by
  rw [hao (w0.alloc _) _ _ (by simp)]
  show (w0.heap.push _)[w0.heap.size]? = _
  simp

theorem D86 : Keyed Tryz.prog 9 := string_keyed Tryz.underlying9

theorem C4c {H : Type} {P : Program} (w : World) {ops : Array Oper} {rest : List Oper} {o : Oper} {a : Act} {Q : Exit → Act → World → Prop}
  (hg : o.guard = none) (m x v : Operand) (t : TypeId) (hop : o.op = Op.insert t m x v)
  (k e : TypeId) (K : Keyed P k) (ht : P.underlying t = some (.map k e)) (R : Value → Option (DataW H × List MemPlace)) (b n : Nat) (D : DataW H)
  (hm : a.eval m = .map (some b)) (hown : w.ownsMap P k R b n D) (hn : n < maxLen) (key val : Value) (kl : Lit) (hx : a.eval x = key) (hv : a.eval v = val) (hkey : keyOf P k key = some kl)
  (d : DataW H) (ps : List MemPlace) (hval : R val = some (d, ps))
  (hK : ∀ w', w'.ownsMap P k R b (n + 1) (D.put kl d) → w.grownBy w' (some b) → wpList P ops Q rest (a.put o.dst undef) w') :
  wpList P ops Q (o :: rest) a w := by
 refine wpList_plain hg fun K' hK' => ?_
 obtain ⟨w', hrun, r1, r2⟩ := hown.update K ht hn hkey hval
 unfold Oper.wp
 simp [execOp, hop, hm, hx, hv, hrun, Result.andThen]
 exact hK' _ _ (hK w' r1 r2)

theorem C0d {w0 : World} (w : World) {ops : Array Oper} {rest : List Oper} {o : Oper} {a : Act} {Q : Exit → Act → World → Prop}
  (hg : o.guard = none) (m x v : Operand) (hop : o.op = Op.insert 80 m x v) (b n : Nat) (t : List (List UInt8 × Int × Int))
  (hm : a.eval m = .map (some b)) (hown : MapAt w0 w b n (C16 t)) (hn : n < 100) (s : ByteArray) (z1 z2 : Int) (hx : a.eval x = .string s) (hv : a.eval v = .agg #[.int .i64 z1, .int .i64 z2]) (hs : decide (s.size ≤ 100) = true)
  (hK : ∀ w', MapAt w0 w' b (n + 1) (C16 (t ++ [(s.data.toList, z1, z2)])) → wpList Tryz.prog ops Q rest (a.put o.dst undef) w') :
  wpList Tryz.prog ops Q (o :: rest) a w := by
 replace hs := of_decide_eq_true hs
 have hsl : s.size ≤ maxLen := by have : maxLen = 9223372036854775807 := rfl; omega
 have hkey : keyOf Tryz.prog 9 (.string s) = some (.string s.data.toList) := Go.WideMaps.keyOf_string_mk Tryz.underlying9 hsl
 refine C4c w hg m x v 80 hop 9 53 D86 Tryz.underlying80 C7z b n (C16 t) hm hown.own (by have : maxLen = 9223372036854775807 := rfl; omega) _ _ _ hx hv hkey (B92 (z1, z2)) [] rfl fun w' r1 r2 => ?_
 refine hK w' ⟨?_, hown.hb, r2.os.trans hown.os, r2.tape.trans hown.tape, r2.output.trans hown.output, Nat.le_trans hown.size r2.size, fun k hk => (r2.block k (Nat.lt_of_lt_of_le hk hown.size) (fun e => ?_)).trans (hown.block k hk), hown.bb, Nat.lt_of_lt_of_le hown.lt r2.size, (r2.block _ hown.lt (fun e => ?_)).trans hown.cell⟩
 ·rw [C1w]; exact r1
 ·have e : k = b := Option.some.inj e
  have := hown.hb
  omega
 ·have e : w0.heap.size = b := Option.some.inj e
  have := hown.bb
  omega

theorem C3n {w0 : World} (w : World) {ops : Array Oper} {rest : List Oper} {o : Oper} {a : Act} {Q : Exit → Act → World → Prop}
  (hg : o.guard = none) (m x : Operand) (hop : o.op = Op.lookup 80 m x true) (b n : Nat) (t : List (List UInt8 × Int × Int))
  (hm : a.eval m = .map (some b)) (hown : MapAt w0 w b n (C16 t)) (s : ByteArray) (hx : a.eval x = .string s) (hs : s.size ≤ maxLen)
  (k1 k2 : Int) (bb : Bool) (hr1 : (A52 t s.data.toList).getD (0, 0) = (k1, k2)) (hr2 : (A52 t s.data.toList).isSome = bb)
  (hK : MapAt w0 w b n (C16 t) → wpList Tryz.prog ops Q rest (a.put o.dst (.tuple #[.agg #[.int .i64 k1, .int .i64 k2], .bool bb])) w) :
  wpList Tryz.prog ops Q (o :: rest) a w := by
 obtain ⟨e1, e2⟩ := D9m t s.data.toList (0, 0)
 refine wpList_lookup_own_ok w hg m x 80 hop 9 53 D86 Tryz.underlying80 C7z (z := .agg #[.int .i64 0, .int .i64 0]) (by kernel_rfl) (B92 (0, 0)) [] rfl b n (C16 t) hm hown.own (.string s) (.string s.data.toList) hx (Go.WideMaps.keyOf_string_mk Tryz.underlying9 hs) fun v ps hv => ?_
 rw [e1, hr1] at hv
 rw [D65 hv, e2, hr2]
 exact hK hown

theorem D5q {w : World} {b : Nat} {x y : Value} {t : TypeId} (hc : w.heap[b]? = some (.cells #[x, y] t (0, 0))) (hlt : b < w.heap.size) (v1 v2 : Value) (o : Obj) :
  (((w.setCell ⟨b, 0, none⟩ v1).setCell ⟨b, 1, none⟩ v2).alloc o).heap[b]? = some (.cells #[v1, v2] t (0, 0)) ∧ (((w.setCell ⟨b, 0, none⟩ v1).setCell ⟨b, 1, none⟩ v2).alloc o).heap.size = w.heap.size + 1 ∧
  (∀ k, k ≠ b → k < w.heap.size → (((w.setCell ⟨b, 0, none⟩ v1).setCell ⟨b, 1, none⟩ v2).alloc o).heap[k]? = w.heap[k]?) ∧ (((w.setCell ⟨b, 0, none⟩ v1).setCell ⟨b, 1, none⟩ v2).alloc o).os = w.os ∧ (((w.setCell ⟨b, 0, none⟩ v1).setCell ⟨b, 1, none⟩ v2).alloc o).tape = w.tape ∧ (((w.setCell ⟨b, 0, none⟩ v1).setCell ⟨b, 1, none⟩ v2).alloc o).output = w.output := by
 have hsz : ((w.setCell ⟨b, 0, none⟩ v1).setCell ⟨b, 1, none⟩ v2).heap.size = w.heap.size := by simp [World.setCell]
 refine ⟨?_, ?_, fun k hk hkl => ?_, rfl, rfl, rfl⟩
 ·rw [hao _ _ _ (by rw [hsz]; exact hlt)]
  simp [World.setCell, Array.getElem?_modify, hc]
 ·show (_ : Array Obj).size = _
  simp [World.alloc, hsz]
 ·rw [hao _ _ _ (by rw [hsz]; exact hkl)]
  simp [World.setCell, Array.getElem?_modify, Ne.symm hk]

theorem D54 (tm : Array Value) (w : World) (b : Nat) (k1 k2 : Int) (bb : Bool) (h2 : tm.getD 2 undef = .pointer (some ⟨b, 0, none⟩)) (h3 : tm.getD 3 undef = .bool bb) (hc : w.heap[b]? = some (.cells #[.int .i64 k1, .int .i64 k2] 53 (0, 0))) :
  (results Tryz.f26 tm).run Tryz.prog w = .ok (.tuple #[.agg #[.int .i64 k1, .int .i64 k2], .bool bb]) w := by
 have hl := C2a (P := Tryz.prog) (w := w) Tryz.underlying53 (show Q8 Tryz.prog 53 = some 2 by kernel_rfl) ⟨b, 0, none⟩ [.int .i64 k1, .int .i64 k2] (fun j v hj => by
  match j, hj with
  | 0, hj => simp at hj; subst hj; simp [World.cell?, Addr.add, hc]
  | 1, hj => simp at hj; subst hj; simp [World.cell?, Addr.add, hc]
  | j + 2, hj => simp at hj)
 have hf : Tryz.f26.results = #[.cell 2 53, .tmp 3] := by kernel_rfl
 have hl' : (loadVar 53 ⟨b, 0, none⟩).run Tryz.prog w = .ok (.agg #[.int .i64 k1, .int .i64 k2]) w := hl rfl
 have hasA : (asAddr (tm.getD 2 undef)).run Tryz.prog w = .ok ⟨b, 0, none⟩ w := by rw [h2]; rfl
 unfold results
 rw [hf, Array.mapM_eq_mapM_toList]
 simp only [Sem.run_bind, Sem.run_map, Sem.run_pure, List.mapM_cons, List.mapM_nil, hasA, hl', h3, Result.andThen_ok]
 rfl

set_option maxRecDepth 100000 in
set_option maxHeartbeats 2000000 in
theorem D0i (s : ByteArray) (hs : s.size ≤ maxLen) (k1 k2 : Int) (bb : Bool) (hr1 : (A52 A46 s.data.toList).getD (0, 0) = (k1, k2)) (hr2 : (A52 A46 s.data.toList).isSome = bb) (w : World) : Calls Tryz.prog 26 #[.string s] w fun e w' => e = .returned (.tuple #[.agg #[.int .i64 k1, .int .i64 k2], .bool bb]) ∧ Grown E0 w w' := by
 have hmm := @run_makeMap Tryz.prog
 go_enter Tryz.func26, Tryz.ntmps26
 go_wp2_with (first | (refine C0d (w0 := w) _ rfl _ _ _ rfl _ _ _ rfl (by first | assumption | exact D43 _) (by decide) _ _ _ rfl rfl rfl ?_; intro w1 hown1) | (refine C3n (w0 := w) _ rfl _ _ rfl _ _ _ rfl (by assumption) _ rfl hs k1 k2 bb hr1 hr2 ?_; intro hown1; have hlt1 := hown1.lt; obtain ⟨hc0, hc1, hf0, hf1⟩ := hown1.c0) | go_in)
 have hfw := D5q hown1.cell hown1.lt (.int .i64 k1) (.int .i64 k2) (.cells #[.int .i64 k1, .int .i64 k2] 53)
 obtain ⟨g1, g2, g3, g4, g5, g6⟩ := hfw
 refine bodyPost_ret (D54 _ _ _ k1 k2 bb rfl rfl g1) rfl ⟨rfl, ?_⟩
 have hlt2 := hown1.lt
 exact ⟨g4.trans hown1.os, g5.trans hown1.tape, g6.trans hown1.output, fun h => absurd h (by intro h; exact h), by rw [g2]; omega, fun k hk => (g3 k (by omega) (by omega)).trans (hown1.block k hk)⟩

/-- How a call chooses: its kind, its way, and whether there is one. -/
def E9 (l : List UInt8) : (Int × Int) × Bool := ((A52 A46 l).getD (0, 0), (A52 A46 l).isSome)

theorem A58 (l : List UInt8) (hl : l.length ≤ 1000000000) : Meets Tryz.prog E0 A2u [Q5 (D6 l)] [] (.tp [.ag [I (E9 l).1.1, I (E9 l).1.2], Bo (E9 l).2]) [] :=
 D5i (vals := [.string (D6 l)]) (v := .tuple #[.agg #[.int .i64 (E9 l).1.1, .int .i64 (E9 l).1.2], .bool (E9 l).2]) (enters_of Tryz.func26 (by kernel_rfl) rfl)
  (fun A φ w => by simp only [CA, H7, CT]; exact ⟨_, rfl, _, _, rfl, ⟨_, rfl, _, _, rfl, ⟨rfl, rfl⟩, _, _, rfl, ⟨rfl, rfl⟩, rfl⟩, _, _, rfl, ⟨rfl, rfl⟩, rfl⟩) rfl
  (fun w _ => D0i (D6 l) (by rw [C9]; have : maxLen = 9223372036854775807 := rfl; omega) _ _ _ rfl rfl w)

end Go.Proofs.YtgmpceijcdimkaaGreatDoor
namespace Go.Proofs.YtgmpceijcdimkaaGreatDoor
open Go Go.Sx

section IdxG
variable {α : Type}

def A4q (p : α → Bool) : List α → Nat → Int
 | [], _ => -1
 | s :: l, i => if p s then (i : Int) else A4q p l (i + 1)

theorem B6j {p : α → Bool} : ∀ {l : List α} (i : Nat), (∀ s ∈ l, p s = false) → A4q p l i = -1
 | [], _, _ => rfl
 | s :: l, i, h => by
  have hs : ¬ p s = true := by rw [h s (by simp)]; decide
  rw [A4q, if_neg hs, B6j (l := l) (i + 1) (fun x hx => h x (by simp [hx]))]

theorem B62 {p : α → Bool} {s : α} {post : List α} (hs : p s = true) : ∀ {pre : List α} (i : Nat), (∀ x ∈ pre, p x = false) → A4q p (pre ++ s :: post) i = ((i + pre.length : Nat) : Int)
 | [], i, _ => by rw [List.nil_append, A4q, if_pos hs]; rfl
 | x :: pre, i, h => by
  have hx : ¬ p x = true := by rw [h x (by simp)]; decide
  rw [List.cons_append, A4q, if_neg hx, B62 hs (i + 1) (fun y hy => h y (by simp [hy]))]
  simp only [List.length_cons]; omega

theorem A7x (p : α → Bool) : ∀ (l : List α), (∀ s ∈ l, p s = false) ∨ ∃ pre s post, l = pre ++ s :: post ∧ (∀ x ∈ pre, p x = false) ∧ p s = true
 | [] => Or.inl (by simp)
 | x :: l => by
  by_cases hx : p x = true
  ·exact Or.inr ⟨[], x, l, rfl, by simp, hx⟩
  ·have hx : p x = false := by simpa using hx
   rcases A7x p l with h | ⟨pre, s, post, rfl, h1, h2⟩
   ·refine Or.inl ?_
    intro s hs; rcases List.mem_cons.1 hs with rfl | hs
    ·exact hx
    ·exact h s hs
   ·refine Or.inr ⟨x :: pre, s, post, rfl, ?_, h2⟩
    intro s hs; rcases List.mem_cons.1 hs with rfl | hs
    ·exact hx
    ·exact h1 s hs

theorem D1w (p : α → Bool) (l : List α) : decide (0 ≤ A4q p l 0) = l.any p := by
 rcases A7x p l with h | ⟨pre, s, post, rfl, h1, h2⟩
 ·rw [B6j 0 h]
  have : l.any p = false := by
   rw [List.any_eq_false]; intro x hx; rw [h x hx]; decide
  rw [this]; rfl
 ·rw [B62 h2 0 h1]
  have : (pre ++ s :: post).any p = true := List.any_eq_true.2 ⟨s, by simp, h2⟩
  rw [this]; exact decide_eq_true (by omega)

def A03 (p : α → Bool) (l : List α) : List α := l.filter fun s => !p s

theorem C5e {p : α → Bool} {l : List α} {j : Nat} {s : α} (h : l[j]? = some s) : A03 p (l.take (j + 1)) = A03 p (l.take j) ++ (if p s then [] else [s]) := by
 unfold A03
 rw [List.take_add_one, h, List.filter_append]
 by_cases hp : p s = true
 ·simp [hp]
 ·simp [hp]

theorem C8w {α : Type} (a : List α) (x : α) (b : List α) (y : α) (n : Nat) (h : a.length = n) : (a ++ x :: b).set n y = a ++ y :: b := by
 subst h
 rw [List.set_append_right _ _ (Nat.le_refl _), Nat.sub_self]
 rfl

theorem D0k {a l : List α} {j : Nat} {s : α} (h : l[j]? = some s) (ha : a.length = j) : (a ++ l.drop j)[j]? = some s := by
 rw [List.getElem?_append_right (by omega), ha, Nat.sub_self, A05 h]
 rfl
end IdxG

theorem D8u (g : Nat)  (p : Num → Bool) (l : List Num) (hn : l.length ≤ 1000000) (hg : ∀ s ∈ l, Meets Tryz.prog E0 g ([(.ag [Bo (s).1, I (s).2])] ++ []) [] (Bo (p s)) []) :
  Meets Tryz.prog E0 I9 [.own 0 2 0 l.length true, .fn g [] []] [(0, .row 2 true (l.map D7))] (I (A4q p l 0)) [(0, .row 2 true (l.map D7))] := by
 generalize hout : A4q p l 0 = out
 refine Z4 (by simp) (C2 (by simp [B5, AV.ids, A4]) (by simp [Ob.live, Ob.ids, A4, B5, AV.ids])) (C2 (by simp [B5, AV.ids, A4]) (by simp [Ob.live, Ob.ids, A4, B5, AV.ids])) (by simp [A4]) (by simp [A4]) ?_
 simp only [go_sem, R0]
 refine C8 (fun i : Nat => l.length - i) (fun i => i ≤ l.length ∧ A4q p (l.drop i) i = out)
  (fun i => [(0, .own 0 2 0 l.length true), (1, .fn g [] []), (7, I l.length), (8, I i)])
  (fun i => [(0, .row 2 true (l.map D7))]) 0 ⟨Nat.zero_le _, by simpa using hout⟩ (sR [] []) ?_
 rintro i ⟨hi, hr⟩
 by_cases hil : i < l.length
 ·have d0 : decide (i < l.length) = true := decide_eq_true hil
  obtain ⟨s, hs⟩ := F0 hil
  have ei : IntKind.i64.wrap ((i : Int) + 1) = ((i + 1 : Nat) : Int) := by rw [A5 (by omega) (by omega)]; omega
  have ib : (i : Int) < (l.length : Int) := by omega
  have hgr : (l.map D7)[i]? = some [.v (.bool (s).1), .v (.int .i64 (s).2)] := by rw [List.getElem?_map, hs]; rfl
  have hc := hg s (List.mem_of_getElem? hs)
  rw [A05 hs] at hr
  simp only [A4q] at hr
  simp only [go_sem, d0, hgr, ib]
  refine A6 (hc) ?_
  by_cases hp : p s = true
  ·rw [if_pos hp] at hr
   rw [hp]
   simp only [go_sem]
   refine wO [] [] ?_
   simp only [go_sem, I8, exists_eq_left', Option.some.injEq]
   simp [G1, G2, B1, AV.asOwn, B3, A9, AV.isNil, J8, B6, B4, B8, hr]
  ·rw [if_neg hp] at hr
   rw [show p s = false from by simpa using hp]
   simp only [go_sem, ei]
   exact C3 (i + 1) (by first | omega | (simp only; omega)) ⟨by first | omega | (simp only; omega), hr⟩ (sR [] [])
 ·obtain rfl : i = l.length := by omega
  have d0 : decide (l.length < l.length) = false := decide_eq_false (by omega)
  rw [List.drop_length] at hr
  simp only [A4q] at hr
  simp only [go_sem, d0]
  refine wO [] [] ?_
  simp only [go_sem, I8, exists_eq_left', Option.some.injEq]
  simp [G1, G2, B1, AV.asOwn, B3, A9, AV.isNil, J8, B6, B4, B8, hr]

theorem D8t (g : Nat)  (p : Num → Bool) (l : List Num) (hn : l.length ≤ 100000) (hg : ∀ s ∈ l, Meets Tryz.prog E0 g ([(.ag [Bo (s).1, I (s).2])] ++ []) [] (Bo (p s)) []) :
  Meets Tryz.prog E0 M5 [.own 0 2 0 l.length true, .fn g [] []] [(0, .row 2 true (l.map D7))] (.own 0 2 0 (A03 p l).length true) [(0, .row 2 true ((A03 p l).map D7 ++ List.replicate (l.length - (A03 p l).length) [T.v (.bool false), T.v (.int .i64 0)]))] := by
 have bI := D8u g  p l (by omega) hg
 refine Y2 (by simp) (C2 (by simp [B5, AV.ids, A4]) (by simp [Ob.live, Ob.ids, A4, B5, AV.ids])) (C2 (by simp [B5, AV.ids, A4]) (by simp [Ob.live, Ob.ids, A4, B5, AV.ids])) (by simp [A4]) (by simp [A4]) ?_
 rcases A7x p l with hno | ⟨pre, s0, post, hl, hpre, hs0⟩
 ·rw [B6j 0 hno] at bI
  have hle : A03 p l = l := List.filter_eq_self.2 (fun s hs => by simp [hno s hs])
  rw [hle, Nat.sub_self]
  simp only [go_sem, M7]
  refine oB (bI) ?_
  have d1 : decide ((-1 : Int) = -1) = true := rfl
  simp only [go_sem, d1]
  refine wO [] [] ?_
  simp only [go_sem, M4, exists_eq_left', Option.some.injEq]
  simp [G1, G2, B1, AV.asOwn, B3, A9, AV.isNil, J8, B6, B4, B8, ren]
 ·have hidx : A4q p l 0 = (pre.length : Int) := by rw [hl, B62 hs0 0 hpre, Nat.zero_add]
  rw [hidx] at bI
  have hll : pre.length + (post.length + 1) = l.length := by rw [hl]; simp
  have d1 : decide ((pre.length : Int) = -1) = false := decide_eq_false (by omega)
  have e1 : IntKind.i64.wrap ((pre.length : Int) + 1) = ((pre.length + 1 : Nat) : Int) := by rw [A5 (by omega) (by omega)]; omega
  have htk : l.take (pre.length + 1) = pre ++ [s0] := by
   rw [hl, List.take_append, List.take_of_length_le (by omega), show pre.length + 1 - pre.length = 1 by omega]; rfl
  have hlp : A03 p (l.take (pre.length + 1)) = pre := by
   rw [htk]; unfold A03
   rw [List.filter_append, List.filter_eq_self.2 (fun s hs => by simp [hpre s hs])]
   simp [hs0]
  have hdr : l.drop (pre.length + 1) = post := by rw [hl]; simp
  simp only [go_sem, M7]
  refine oB (bI) ?_
  simp only [go_sem, d1, e1]
  refine C8 (fun x : Nat × List Num => l.length - x.1) (fun x => x.1 ≤ l.length ∧ x.2 ≠ [] ∧ (A03 p (l.take x.1) ++ x.2).length = x.1)
   (fun x => [(0, .own 0 2 0 l.length true), (1, .fn g [] []), (5, I (A03 p (l.take x.1)).length), (6, I x.1)])
   (fun x => [(0, .row 2 true (((A03 p (l.take x.1) ++ x.2) ++ l.drop x.1).map D7))])
   (pre.length + 1, [s0]) ⟨by omega, by simp, by rw [hlp]; simp⟩ ?_ ?_
  ·simp only [hlp, hdr]
   rw [show (pre ++ [s0]) ++ post = l by rw [hl]; simp]
   exact (sR [] [])
  rintro ⟨j, st⟩ ⟨hj, hst, hjl⟩
  simp only at hj hst hjl
  by_cases hjlt : j < l.length
  ·have d2 : decide (j < l.length) = true := decide_eq_true hjlt
   obtain ⟨s, hs⟩ := F0 hjlt
   have hc := hg s (List.mem_of_getElem? hs)
   have ei : IntKind.i64.wrap ((j : Int) + 1) = ((j + 1 : Nat) : Int) := by rw [A5 (by omega) (by omega)]; omega
   have ib : (j : Int) < (l.length : Int) := by omega
   have hget := D0k hs hjl
   have hsucc := C5e (p := p) hs
   have hdj := A05 hs
   generalize hK : A03 p (l.take j) = K at *
   have hgr : ((K ++ st ++ l.drop j).map D7)[j]? = some [.v (.bool (s).1), .v (.int .i64 (s).2)] := by rw [List.getElem?_map, hget]; rfl
   simp only [go_sem, d2, hgr, ib]
   refine A6 (hc) ?_
   by_cases hp : p s = true
   ·rw [if_pos hp, List.append_nil] at hsucc
    rw [hp]
    simp only [go_sem, ei]
    refine C3 (j + 1, st ++ [s]) (by simp only; omega) ⟨by simp only; omega, by simp, by simp only [hsucc]; simp at hjl ⊢; omega⟩ ?_
    simp only [hsucc]
    rw [show (K ++ st) ++ l.drop j = (K ++ (st ++ [s])) ++ l.drop (j + 1) by rw [hdj]; simp]
    exact (sR [] [])
   ·rw [if_neg hp] at hsucc
    rw [show p s = false from by simpa using hp]
    obtain ⟨x, st', rfl⟩ : ∃ x st', st = x :: st' := by cases st with | nil => exact absurd rfl hst | cons x st' => exact ⟨x, st', rfl⟩
    have ib2 : (K.length : Int) < (l.length : Int) := by simp at hjl; omega
    have e2 : IntKind.i64.wrap ((K.length : Int) + 1) = ((K.length + 1 : Nat) : Int) := by rw [A5 (by simp at hjl; omega) (by simp at hjl; omega)]; omega
    have hgx : ((K ++ x :: st' ++ l.drop j).map D7)[K.length]? = some [.v (.bool (x).1), .v (.int .i64 (x).2)] := by
     rw [List.getElem?_map, List.append_assoc, List.getElem?_append_right (Nat.le_refl _), Nat.sub_self]; rfl
    have hset : ((K ++ x :: st' ++ l.drop j).map D7).set K.length [.v (.bool (s).1), .v (.int .i64 (s).2)] = (((K ++ [s]) ++ (st' ++ [s])) ++ l.drop (j + 1)).map D7 := by
     rw [show [T.v (.bool (s).1), T.v (.int .i64 (s).2)] = D7 s from rfl, ← List.map_set, List.append_assoc, List.cons_append, C8w K x (st' ++ l.drop j) s K.length rfl, hdj]
     simp
    simp only [go_sem, hgx, ib2, hset, e2, ei]
    refine C3 (j + 1, st' ++ [s]) (by simp only; omega) ⟨by simp only; omega, by simp, by simp only [hsucc]; simp at hjl ⊢; omega⟩ ?_
    simp only [hsucc, List.length_append, List.length_singleton]
    exact (sR [] [])
  ·obtain rfl : j = l.length := by omega
   have d2 : decide (l.length < l.length) = false := decide_eq_false (by omega)
   rw [List.take_length] at hjl
   simp only [List.take_length, List.drop_length, List.append_nil]
   have hKl : (A03 p l).length ≤ l.length := by rw [List.length_append] at hjl; omega
   generalize hK : A03 p l = K at *
   have hk1 : (0 : Int) ≤ (K.length : Int) := by omega
   have hk2 : (K.length : Int) ≤ (l.length : Int) := by omega
   have eN : ((l.length : Int) - (K.length : Int)).toNat = l.length - K.length := by omega
   have hlen : ((K ++ st).map D7).length = l.length := by simpa using hjl
   have hle2 : K.length + (l.length - K.length) ≤ l.length := by omega
   have hfin : List.take K.length ((K ++ st).map D7) ++ List.replicate (l.length - K.length) [T.v (.bool false), T.v (.int .i64 0)] ++ List.drop (K.length + (l.length - K.length)) ((K ++ st).map D7) = K.map D7 ++ List.replicate (l.length - K.length) [T.v (.bool false), T.v (.int .i64 0)] := by
    rw [List.drop_eq_nil_of_le (by rw [hlen]; omega), List.map_append, List.take_append_of_le_length (by simp), List.take_of_length_le (by simp), List.append_nil]
   simp only [go_sem, d2, hk1, hk2, eN, hlen, hle2, hfin]
   refine wO [] [] ?_
   simp only [go_sem, M4, exists_eq_left', Option.some.injEq]
   simp [G1, G2, B1, AV.asOwn, B3, A9, AV.isNil, J8, B6, B4, B8, ren]

theorem D14 (g : Nat) (p : Num → Bool) (l : List Num) (hn : l.length ≤ 1000000000000) (hg : ∀ s ∈ l, Meets Tryz.prog E0 g [(.ag [Bo (s).1, I (s).2])] [] (Bo (p s)) []) :
  Meets Tryz.prog E0 I9 [.t (.sl 2 (l.map D7)), .fn g [] []] [] (I (A4q p l 0)) [] := by
 generalize hout : A4q p l 0 = out
 refine X6 Z4 ?_
 have hlen : (l.map D7).length = l.length := by simp
 simp only [go_sem, R0, hlen]
 refine C8 (fun i : Nat => l.length - i) (fun i => i ≤ l.length ∧ A4q p (l.drop i) i = out)
  (fun i => [(0, .t (.sl 2 (l.map D7))), (1, .fn g [] []), (7, I l.length), (8, I i)])
  (fun i => []) 0 ⟨Nat.zero_le _, by simpa using hout⟩ (sR [] []) ?_
 rintro i ⟨hi, hr⟩
 by_cases hil : i < l.length
 ·have d0 : decide (i < l.length) = true := decide_eq_true hil
  obtain ⟨s, hs⟩ := F0 hil
  have ei : IntKind.i64.wrap ((i : Int) + 1) = ((i + 1 : Nat) : Int) := by rw [A5 (by omega) (by omega)]; omega
  have hgr : (l.map D7)[i]? = some [.v (.bool (s).1), .v (.int .i64 (s).2)] := by rw [List.getElem?_map, hs]; rfl
  have hc := hg s (List.mem_of_getElem? hs)
  rw [A05 hs] at hr
  simp only [A4q] at hr
  simp only [go_sem, d0, hgr]
  refine A6 hc ?_
  by_cases hp : p s = true
  ·rw [if_pos hp] at hr
   rw [hp, ← hr]
   simp only [go_sem]
   refine wE ?_
   simp only [go_sem, I8]
  ·rw [if_neg hp] at hr
   rw [show p s = false from by simpa using hp]
   simp only [go_sem, ei]
   exact C3 (i + 1) (by first | omega | (simp only; omega)) ⟨by first | omega | (simp only; omega), hr⟩ (sR [] [])
 ·obtain rfl : i = l.length := by omega
  have d0 : decide (l.length < l.length) = false := decide_eq_false (by omega)
  rw [List.drop_length] at hr
  simp only [A4q] at hr
  rw [← hr]
  simp only [go_sem, d0]
  refine wE ?_
  simp only [go_sem, I8]

theorem D2e (g : Nat) (p : Num → Bool) (l : List Num) (hn : l.length ≤ 1000000000000) (hg : ∀ s ∈ l, Meets Tryz.prog E0 g [(.ag [Bo (s).1, I (s).2])] [] (Bo (p s)) []) :
  Meets Tryz.prog E0 K9 [.t (.sl 2 (l.map D7)), .fn g [] []] [] (Bo (l.any p)) [] := by
 refine X6 A2m ?_
 have e := D1w p l
 simp only [go_sem, W8]
 refine A6 (D14 g p l hn hg) ?_
 simp only [go_sem, e]
 refine wE ?_
 simp only [go_sem, W0]

end Go.Proofs.YtgmpceijcdimkaaGreatDoor
