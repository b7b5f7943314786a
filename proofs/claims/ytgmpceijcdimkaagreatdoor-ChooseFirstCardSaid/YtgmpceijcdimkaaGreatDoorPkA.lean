/- Texts of mine, many in one. No statement of the seat is proved here. -/
import Derived.Test.YtgmpceijcdimkaaGreatDoorSlim
import Derived.Test.YtgmpceijcdimkaaGreatDoorShelf
import Derived.Test.YtgmpceijcdimkaaGreatDoorSxH
import Derived.Lib.Bytealg
import Derived.Lib.IndexBytes
import Derived.Shelf.Strings.OnBuilder
import Derived.Shelf.Strings.SplitCore
import Derived.Shelf.Strings.Search3
import Derived.Shelf.Strings.Count
import Derived.Lib.SplitLaws
import GoSem.Extern.BytealgCompare
set_option linter.unusedSimpArgs false
set_option linter.unusedVariables false
namespace Go.Proofs.YtgmpceijcdimkaaGreatDoor
open Go Go.Sx

theorem ba_get (s : ByteArray) (i : Nat) : s[i]? = s.data.toList[i]? := by
 by_cases h : i < s.size
 ·rw [getElem?_pos s i h]
  have h2 : i < s.data.toList.length := by simpa using h
  rw [List.getElem?_eq_getElem h2]
  rfl
 ·rw [getElem?_neg s i h, List.getElem?_eq_none (by simpa using h)]

theorem ba_len (s : ByteArray) : s.data.toList.length = s.size := by simp

/-- What is left of a text. -/
def Suf (s : ByteArray) (rest : List UInt8) : Prop := rest <:+ s.data.toList

theorem Suf.len {s : ByteArray} {rest : List UInt8} (h : Suf s rest) : rest.length ≤ s.size := by
 have := h.length_le; rwa [ba_len] at this

theorem Suf.all (s : ByteArray) : Suf s s.data.toList := List.suffix_refl _

theorem Suf.tail {s : ByteArray} {c : UInt8} {rest : List UInt8} (h : Suf s (c :: rest)) : Suf s rest := (List.suffix_cons c rest).trans h

theorem Suf.get {s : ByteArray} {rest : List UInt8} (h : Suf s rest) (k : Nat) : s[s.size - rest.length + k]? = rest[k]? := by
 obtain ⟨pre, hp⟩ := h
 have hl : pre.length + rest.length = s.size := by rw [← ba_len, ← hp]; simp
 rw [ba_get, ← hp, List.getElem?_append_right (by omega)]
 congr 1; omega

theorem u8_lt (c : UInt8) : c.toNat < 256 := UInt8.toNat_lt c

theorem get_of_lt {α : Type} {l : List α} {i : Nat} (h : i < l.length) : ∃ s, l[i]? = some s := ⟨l[i], List.getElem?_eq_getElem h⟩

theorem drop_get {α : Type} {l : List α} {i : Nat} {s : α} (h : l[i]? = some s) : l.drop i = s :: l.drop (i + 1) := by
 obtain ⟨hi, rfl⟩ := List.getElem?_eq_some_iff.1 h
 exact List.drop_eq_getElem_cons hi

abbrev Str (s : ByteArray) : AV := .t (.v (.string s))

end Go.Proofs.YtgmpceijcdimkaaGreatDoor
namespace Go.Proofs.YtgmpceijcdimkaaGreatDoor
open Go Go.Sx

/-- A text's parts. -/
def partsB (c : UInt8) : List UInt8 → List (List UInt8)
 | [] => [[]]
 | b :: l => if b = c then [] :: partsB c l else match partsB c l with
  | [] => [[b]]
  | p :: ps => (b :: p) :: ps

theorem bytes_ext {a b : ByteArray} (h : a.data.toList = b.data.toList) : a = b := by
 cases a; cases b; simp only [Array.toList_inj] at h; rw [h]

theorem partsB_at (c : UInt8) : ∀ l : List UInt8, (Lib.indexByte l c < 0 → partsB c l = [l]) ∧ (0 ≤ Lib.indexByte l c → (Lib.indexByte l c).toNat < l.length ∧ partsB c l = l.take (Lib.indexByte l c).toNat :: partsB c (l.drop ((Lib.indexByte l c).toNat + 1)))
 | [] => by simp [Lib.indexByte, partsB]
 | b :: l => by
  have ih := partsB_at c l
  have hge := Lib.indexByte_ge l c
  simp only [Lib.indexByte, partsB]
  by_cases hb : b = c
  ·subst hb; simp
  ·have hb' : (b == c) = false := by simpa using hb
   simp only [hb', hb, if_false, Bool.false_eq_true]
   by_cases hi : Lib.indexByte l c = -1
   ·have h1 := ih.1 (by omega)
    simp [hi, h1]
   ·have hi' : (Lib.indexByte l c == -1) = false := by simpa using hi
    have h0 : 0 ≤ Lib.indexByte l c := by omega
    obtain ⟨h2, h3⟩ := ih.2 h0
    simp only [hi', if_false, Bool.false_eq_true]
    have e : (Lib.indexByte l c + 1).toNat = (Lib.indexByte l c).toNat + 1 := by omega
    refine ⟨fun h => by omega, fun _ => ⟨by rw [e]; simp; omega, ?_⟩⟩
    rw [e, h3]
    simp

theorem parts_sum (c : UInt8) : ∀ l : List UInt8, (partsB c l).length ≤ l.length + 1 ∧ ∀ p ∈ partsB c l, p.length ≤ l.length
 | [] => by simp [partsB]
 | b :: l => by
  have ih := parts_sum c l
  simp only [partsB]
  by_cases hb : b = c
  ·rw [if_pos hb]
   refine ⟨by simp; omega, fun p hp => ?_⟩
   rcases List.mem_cons.1 hp with rfl | hp
   ·simp
   ·have := ih.2 p hp; simp; omega
  ·rw [if_neg hb]
   generalize partsB c l = ps at *
   cases ps with
   | nil => simp
   | cons q ps =>
    simp only [List.length_cons] at ih ⊢
    refine ⟨by omega, fun p hp => ?_⟩
    rcases List.mem_cons.1 hp with rfl | hp
    ·have := ih.2 q (by simp); simp; omega
    ·have := ih.2 p (by simp [hp]); omega

end Go.Proofs.YtgmpceijcdimkaaGreatDoor
namespace Go.Proofs.YtgmpceijcdimkaaGreatDoor
open Go Go.Sx

def toB (l : List UInt8) : ByteArray := ⟨l.toArray⟩

theorem toB_data (l : List UInt8) : (toB l).data.toList = l := rfl

theorem toB_append (a l : List UInt8) : toB a ++ toB l = toB (a ++ l) := by
 apply bytes_ext
 simp [toB]

theorem addT (a l : List UInt8) (h : a.length + l.length ≤ 9223372036854775807) : binStr .add (toB a) (toB l) = some (.string (toB (a ++ l))) := by
 have e1 : (toB a).size = a.length := rfl
 have e2 : (toB l).size = l.length := rfl
 have em : IntKind.i64.max = 9223372036854775807 := rfl
 simp only [binStr, e1, e2, em]
 rw [if_neg (by omega), toB_append]

theorem toB_size (l : List UInt8) : (toB l).size = l.length := rfl

theorem eqT (a b : List UInt8) : binStr .eql (toB a) (toB b) = some (.bool (a == b)) := by
 simp only [binStr]
 congr 2
 rw [Lib.toList_data, Lib.toList_data, toB_data, toB_data]

theorem neT (a b : List UInt8) : binStr .neq (toB a) (toB b) = some (.bool (!(a == b))) := by
 simp only [binStr]
 congr 2
 rw [Lib.toList_data, Lib.toList_data, toB_data, toB_data]

theorem extT (l : List UInt8) (a b : Nat) : (toB l).extract a b = toB ((l.take b).drop a) := by
 apply bytes_ext
 have : ((toB l).extract a b).data.toList = (l.drop a).take (b - a) := by
  simp [ByteArray.extract, ByteArray.copySlice, toB]
 rw [this, toB_data, List.drop_take]

theorem getT (l : List UInt8) (i : Nat) : (toB l)[i]? = l[i]? := by rw [ba_get, toB_data]

end Go.Proofs.YtgmpceijcdimkaaGreatDoor
namespace Go.Proofs.YtgmpceijcdimkaaGreatDoor
open Go Go.Sx

/-- The world has only grown. -/
structure Grown (E : Env) (w w' : World) : Prop where
 os : w'.os = w.os
 tape : w'.tape = w.tape
 output : w'.output = w.output
 drawn : E.cnt → w.drawn ≤ w'.drawn
 size : w.heap.size ≤ w'.heap.size
 block : ∀ b, b < w.heap.size → w'.heap[b]? = w.heap[b]?

theorem Grown.refl {E : Env} (w : World) : Grown E w w := ⟨rfl, rfl, rfl, fun _ => Nat.le_refl _, Nat.le_refl _, fun _ _ => rfl⟩

theorem cas_plain {A : Nat → Prop} {φ : Nat → Nat} {w : World} : ∀ {vals ys : List Value}, CAs A φ w (vals.map fun x => .t (.v x)) ys → ys = vals
 | [], ys, h => by simpa [CAs] using h
 | x :: l, ys, h => by
  simp only [List.map_cons, CAs, CA, CT] at h
  obtain ⟨z, zs, rfl, ⟨rfl, _⟩, h⟩ := h
  rw [cas_plain h]

theorem ids_plain (vals : List Value) : idsL (vals.map fun x => .t (.v x)) = [] := by
 induction vals with
 | nil => rfl
 | cons x l ih => simp only [List.map_cons, idsL, AV.ids, ih]; rfl

theorem meets_lib2 {P : Program} {E : Env} {f : FuncId} {av : List AV} {v : Value} {r : AV} (ha : idsL av = []) (he : ∀ args w, (callFunc f args).run P w = .ok (.enter f args) w) (hr : ∀ A φ w, CA A φ w r v) (hi : r.ids = [])
  (h : ∀ (A : Nat → Prop) φ w (args : Array Value), E.gi w → (∀ b, A b → b < w.heap.size) → CAs A φ w av args.toList → Calls P f args w fun e w' => e = .returned v ∧ Grown E w w') : Meets P E f av [] r [] where
 shutIn := shut0 ha
 shutOut := shut0 (by simp [idsL, hi])
 stay := by simp [keysOf]
 runs := fun A φ w args gi gA alt hH hargs => by
  refine Or.inl ⟨he _ _, (h A φ w args gi alt hargs).mono ?_⟩
  rintro e w' ⟨rfl, hg⟩
  refine ⟨v, rfl, A, φ, ?_⟩
  exact {
   go := ⟨fun b hb => ⟨hb, hg.block b (alt b hb)⟩, fun b n hb => by
    have hlt : b < w.heap.size := by obtain ⟨cs, e, h1, _⟩ := hb; exact heap_lt h1
    exact RowCap.of_heap (hg.block b hlt) hb⟩
   agree := by simp [keysOf]
   holds := ⟨fun id o ho => by simp [stoOf] at ho, fun id o ho => by simp [stoOf] at ho, fun i j hi => by simp [keysOf] at hi⟩
   fresh := by simp [keysOf]
   ca := hr _ _ _
   anew := fun b hb => Or.inl hb
   alt := fun b hb => Nat.lt_of_lt_of_le (alt b hb) hg.size
   old := fun b hb _ => hg.block b hb
   os := hg.os
   tape := hg.tape
   output := hg.output
   drawn := hg.drawn
   size := hg.size }

theorem meets_lib {P : Program} {E : Env} {f : FuncId} {vals : List Value} {v : Value} {r : AV} (he : ∀ args w, (callFunc f args).run P w = .ok (.enter f args) w) (hr : ∀ A φ w, CA A φ w r v) (hi : r.ids = [])
  (h : ∀ w, E.gi w → Calls P f vals.toArray w fun e w' => e = .returned v ∧ Grown E w w') : Meets P E f (vals.map fun x => .t (.v x)) [] r [] :=
 meets_lib2 (ids_plain vals) he hr hi fun A φ w args gi alt hargs => by
  have e : args = vals.toArray := by rw [← cas_plain hargs]
  subst e
  exact h w gi

end Go.Proofs.YtgmpceijcdimkaaGreatDoor
namespace Go.Proofs.YtgmpceijcdimkaaGreatDoor
open Go Go.Sx Go.RowKit Go.Shelf

def rowS (x : ByteArray) : List T := [.v (.string x)]

theorem grown_of_below {w w' : World} (h : Below w.heap.size w w') (hc : E0.cnt → False) : Grown E0 w w' := ⟨h.os, h.tape, h.output, fun hh => (hc hh).elim, h.size, h.block⟩

theorem joinExtra : Go.Proofs.Builder.Extra Tryz.prog Tryz.laysJoin_ren where
 sizeBuilder := by kernel_rfl
 liesBuilder := by kernel_rfl
 t5 := Tryz.underlying5
 a5 := Tryz.isAgg5
 z5 := Tryz.sizeOf5
 v5 := Tryz.zeroValue5
 infoByte := by kernel_rfl
 cellsByte := by kernel_rfl
 sizeByte := by kernel_rfl
 neB5 := by decide

/-- A text of parts, with something between them. -/
def joinB (xs : List ByteArray) (sep : ByteArray) : ByteArray := toB (Lib.join (xs.map (·.data.toList)) sep.data.toList)

theorem f_Join (xs : List ByteArray) (sep : ByteArray) (h1 : xs.length ≤ 140737488355328) (h2 : (Lib.join (xs.map (·.data.toList)) sep.data.toList).length ≤ 140737488355328) :
  Meets Tryz.prog E0 n_strings_Join [.t (.sl 1 (xs.map rowS)), Str sep] [] (Str (joinB xs sep)) [] := by
 refine meets_lib2 (v := .string (joinB xs sep)) rfl (enters_of Tryz.func97 (by kernel_rfl) rfl) (fun A φ w => by simp only [CA, CT]; exact ⟨trivial, rfl⟩) rfl ?_
 intro A φ w args hE alt hargs
 simp only [CAs, CA, CT] at hargs
 obtain ⟨_, _, e1, ⟨a, cap, rfl, hcap, hrow⟩, _, _, rfl, ⟨rfl, _⟩, rfl⟩ := hargs
 obtain rfl : args = #[.slice a xs.length cap, .string sep] := by cases args; simp_all
 rw [List.length_map] at hcap
 by_cases hx : xs = []
 ·subst hx
  refine Calls.mono (Go.Proofs.Any.strings_Join_none Go.Proofs.Tryz.laysJoin joinExtra a cap sep w) ?_
  rintro e w' ⟨rfl, rfl⟩
  refine ⟨?_, Grown.refl _⟩
  congr 2
 ·rcases hrow with hrow | ⟨b, o, rfl, hA, hrow⟩
  ·exact absurd (by simpa using hrow) hx
  ·have hcells : ∀ (j : Nat) x, xs[j]? = some x → w.cell? ⟨b, o + j, none⟩ = some (.string x) := by
    intro j x hj
    have hr := hrow.get (i := j) (e := rowS x) (by rw [List.getElem?_map, hj]; rfl)
    obtain ⟨y, hy, hc⟩ := hr.2.get (i := 0) (c := .v (.string x)) rfl
    simp only [CT] at hc
    rw [Nat.mul_one, Nat.add_zero, hc.1] at hy
    exact hy
   refine Calls.mono (Go.Proofs.Any.strings_Join Go.Proofs.Tryz.laysJoin joinExtra b o cap xs sep w hcells (alt b hA) h1 hcap h2) ?_
   rintro e w' ⟨rfl, hb⟩
   exact ⟨rfl, grown_of_below hb (fun h => h)⟩

end Go.Proofs.YtgmpceijcdimkaaGreatDoor
namespace Go.Proofs.YtgmpceijcdimkaaGreatDoor
open Go Go.Sx Go.RowKit Go.Shelf

theorem keeps_alloc {A : Nat → Prop} {w : World} (c : Obj) (alt : ∀ b, A b → b < w.heap.size) : Goes A (fun b => A b ∨ b = w.heap.size) w (w.alloc c) :=
 have hb : ∀ b, b < w.heap.size → (w.alloc c).heap[b]? = w.heap[b]? := fun b h => by
  simp only [World.alloc]
  rw [Array.getElem?_push_lt h, Array.getElem?_eq_getElem h]
 ⟨fun b h => ⟨Or.inl h, hb b (alt b h)⟩, fun b n h => RowCap.of_heap (hb b h.lt) h⟩

theorem meets_lib3 {P : Program} {E : Env} {f : FuncId} {av : List AV} {es : List (List T)} {sz : Nat} (ha : idsL av = []) (he : ∀ args w, (callFunc f args).run P w = .ok (.enter f args) w)
  (h : ∀ (A : Nat → Prop) φ w (args : Array Value), E.gi w → (∀ b, A b → b < w.heap.size) → CAs A φ w av args.toList → Calls P f args w fun e w' => ∃ c N, e = .returned (.slice (some ⟨w.heap.size, 0, none⟩) es.length N) ∧ es.length ≤ N ∧ w' = w.alloc c ∧ CRows (fun b => A b ∨ b = w.heap.size) (w.alloc c) sz w.heap.size 0 es) : Meets P E f av [] (.t (.sl sz es)) [] where
 shutIn := shut0 ha
 shutOut := shut0 (by simp [idsL, AV.ids])
 stay := by simp [keysOf]
 runs := fun A φ w args gi gA alt hH hargs => by
  refine Or.inl ⟨he _ _, (h A φ w args gi alt hargs).mono ?_⟩
  rintro e w' ⟨c, N, rfl, hN, rfl, hr⟩
  have hb : ∀ b, b < w.heap.size → (w.alloc c).heap[b]? = w.heap[b]? := fun b h => by
   simp only [World.alloc]
   rw [Array.getElem?_push_lt h, Array.getElem?_eq_getElem h]
  have hsz : (w.alloc c).heap.size = w.heap.size + 1 := by show (w.heap.push c).size = _; rw [Array.size_push]
  refine ⟨_, rfl, fun b => A b ∨ b = w.heap.size, φ, ?_⟩
  exact {
   go := keeps_alloc c alt
   agree := by simp [keysOf]
   holds := ⟨fun id o ho => by simp [stoOf] at ho, fun id o ho => by simp [stoOf] at ho, fun i j hi => by simp [keysOf] at hi⟩
   fresh := by simp [keysOf]
   ca := by
    simp only [CA, CT]
    exact ⟨_, _, rfl, hN, Or.inr ⟨_, _, rfl, Or.inr rfl, hr⟩⟩
   anew := fun b hb => hb.elim Or.inl fun h => Or.inr (by omega)
   alt := fun b hb => by
    rw [hsz]
    rcases hb with h | h
    ·have := alt b h; omega
    ·omega
   old := fun b hlt _ => hb b hlt
   os := rfl
   tape := rfl
   output := rfl
   drawn := fun _ => Nat.le_refl _
   size := by rw [hsz]; omega }

/-- A point. -/
abbrev dotB : ByteArray := bs [46]

/-- A text's parts between points. -/
def splitsB (s : ByteArray) : List ByteArray := Lib.splitB dotB 0 (Lib.countB s dotB) s

theorem crowsS {A : Nat → Prop} {w : World} {b : Nat} : ∀ (xs : List ByteArray) (o : Nat), (∀ (j : Nat) x, xs[j]? = some x → w.cell? ⟨b, o + j, none⟩ = some (.string x)) → CRows A w 1 b o (xs.map rowS)
 | [], _, _ => by simp [CRows]
 | x :: xs, o, h => by
  simp only [List.map_cons, CRows, rowS, CCells, CT, and_true, List.length_cons, List.length_nil]
  refine ⟨⟨trivial, .string x, h 0 x rfl, rfl, rfl⟩, crowsS xs (o + 1) fun j y hj => ?_⟩
  have := h (j + 1) y (by simpa using hj)
  rwa [show o + (j + 1) = o + 1 + j by omega] at this

theorem cell_alloc (w : World) (vs : Array Value) (e : TypeId) (j : Nat) (x : Value) (h : vs[j]? = some x) : (w.alloc (.cells vs e)).cell? ⟨w.heap.size, 0 + j, none⟩ = some x := by
 have hh : (w.alloc (.cells vs e)).heap[w.heap.size]? = some (.cells vs e) := by
  show (w.heap.push _)[w.heap.size]? = _
  rw [Array.getElem?_push_size]
 rw [Nat.zero_add]
 simp only [World.cell?, hh]
 exact h

theorem splits_length (s : ByteArray) : (splitsB s).length = Lib.countB s dotB + 1 := Lib.splitB_all dotB (by decide) 0 _ s rfl

theorem f_strings_genSplit (s : ByteArray) (hs : s.size < 4294967281) : Meets Tryz.prog E0 n_strings_genSplit [Str s, Str dotB, I 0, I (-1)] [] (.t (.sl 1 ((splitsB s).map rowS))) [] := by
 have L := Go.Proofs.Tryz.laysGenSplit
 refine meets_lib3 rfl (enters_of Tryz.func118 (by kernel_rfl) rfl) ?_
 intro A φ w args hE alt hargs
 simp only [CAs, CA, CT] at hargs
 obtain ⟨_, _, e1, ⟨rfl, _⟩, _, _, rfl, ⟨rfl, _⟩, _, _, rfl, ⟨rfl, _⟩, _, _, rfl, ⟨rfl, _⟩, rfl⟩ := hargs
 obtain rfl : args = #[.string s, .string dotB, .int .i64 0, .int .i64 (-1)] := by cases args; simp_all
 have hle := Lib.countB_le dotB (by decide) s.size s (Nat.le_refl _)
 have hk := Go.Proofs.Any.strings_genSplit_core L (by kernel_rfl) s dotB 0 (-1) (Lib.countB s dotB + 1) w hs (by decide) (by decide)
  (fun x c hx => by
   refine Calls.mono (Go.Proofs.Any.strings_Index_one { L with } x 46 _) ?_
   rintro e w' ⟨rfl, rfl⟩
   refine ⟨?_, rfl⟩
   rw [Lib.indexB, show dotB.data.toList = [46] from rfl, Lib.index_one])
  (by
   refine Calls.mono (Go.Proofs.Any.strings_Count_one { L with } s 46 w) ?_
   rintro e w' ⟨rfl, rfl⟩
   refine ⟨?_, rfl⟩
   rw [Lib.countB, show dotB.data.toList = [46] from rfl, Lib.count_one]; rfl)
  (by decide) (by decide) (by omega)
 refine Calls.mono hk ?_
 rintro e w' ⟨rfl, rfl⟩
 have el : (Lib.splitB dotB 0 (Lib.countB s dotB + 1 - 1) s) = splitsB s := rfl
 rw [el]
 have e2 := splits_length s
 refine ⟨_, _, by rw [List.length_map], by rw [List.length_map]; omega, rfl, ?_⟩
 refine crowsS _ _ fun j x hj => ?_
 have hjl : j < (splitsB s).length := by
  rcases Nat.lt_or_ge j (splitsB s).length with h | h
  ·exact h
  ·rw [List.getElem?_eq_none h] at hj; cases hj
 rw [← e2, Lib.cellsOf_full]
 exact cell_alloc w _ _ _ _ (by simp [hj])

theorem parts_split : ∀ (k : Nat) (l : List UInt8), l.length ≤ k → Lib.splitK [46] 0 (Lib.count l [46]) l = partsB 46 l
 | k, l, hk => by
  have hi := Lib.index_one l 46
  have hp := partsB_at 46 l
  have hge := Lib.indexByte_ge l 46
  by_cases hm : Lib.indexByte l 46 = -1
  ·rw [Lib.count_miss (by rw [hi, hm]), hp.1 (by omega)]; rfl
  ·obtain ⟨j, hj⟩ : ∃ j : Nat, Lib.indexByte l 46 = j := ⟨(Lib.indexByte l 46).toNat, by omega⟩
   obtain ⟨h1, h2⟩ := hp.2 (by omega)
   have ej : (Lib.indexByte l 46).toNat = j := by omega
   rw [ej] at h1 h2
   rw [Lib.count_hit (by simp) (hi.trans hj), h2, Nat.add_comm, Lib.splitK, hi]
   rw [if_neg (by simpa using hm), ej]
   cases k with
   | zero => omega
   | succ k =>
    simp only [List.length_cons, List.length_nil, Nat.zero_add, Nat.add_zero]
    rw [parts_split k (l.drop (j + 1)) (by simp; omega)]

theorem splits_parts (s : ByteArray) : (splitsB s).map (·.data.toList) = partsB 46 s.data.toList := by
 unfold splitsB
 rw [Lib.splitB_data]
 exact parts_split _ _ (Nat.le_refl _)

theorem f_strings_Split (s : ByteArray) (hs : s.size < 4294967281) : Meets Tryz.prog E0 n_strings_Split [Str s, Str dotB] [] (.t (.sl 1 ((splitsB s).map rowS))) [] := by
 refine st0 m_strings_Split ?_
 simp only [go_sem, s_strings_Split]
 refine Cl_plain (f_strings_genSplit s hs) ?_
 simp only [go_sem, s_strings_Split]
 refine wE ?_; rfl

end Go.Proofs.YtgmpceijcdimkaaGreatDoor
namespace Go.Proofs.YtgmpceijcdimkaaGreatDoor
open Go Go.Sx

section StableSort
variable {α : Type}

/-- An item put into a list that is read from its end. -/
def insRev (lt : α → α → Bool) (x : α) : List α → List α
 | [] => [x]
 | y :: r => if lt x y then y :: insRev lt x r else x :: y :: r

/-- An item put into a list, behind all that aren't above it. -/
def insR (lt : α → α → Bool) (x : α) (l : List α) : List α := (insRev lt x l.reverse).reverse

/-- Sorted by putting in one by one. -/
def isrt (lt : α → α → Bool) (l : List α) : List α := l.foldl (fun s x => insR lt x s) []

theorem insR_nil (lt : α → α → Bool) (x : α) : insR lt x [] = [x] := rfl
theorem insR_snoc (lt : α → α → Bool) (x y : α) (s : List α) : insR lt x (s ++ [y]) = if lt x y then insR lt x s ++ [y] else s ++ [y, x] := by
 unfold insR
 rw [List.reverse_append, List.reverse_singleton, List.singleton_append, insRev]
 split
 ·rw [List.reverse_cons]
 ·simp
theorem isrt_nil (lt : α → α → Bool) : isrt lt [] = [] := rfl
theorem isrt_snoc (lt : α → α → Bool) (l : List α) (x : α) : isrt lt (l ++ [x]) = insR lt x (isrt lt l) := by
 unfold isrt; rw [List.foldl_append]; rfl
theorem insRev_len (lt : α → α → Bool) (x : α) : ∀ l, (insRev lt x l).length = l.length + 1
 | [] => rfl
 | y :: r => by
  unfold insRev
  split
  ·simp [insRev_len lt x r]
  ·rfl
theorem insR_len (lt : α → α → Bool) (x : α) (l : List α) : (insR lt x l).length = l.length + 1 := by
 unfold insR; rw [List.length_reverse, insRev_len, List.length_reverse]

theorem snoc_ind {P : List α → Prop} (h0 : P []) (h1 : ∀ l x, P l → P (l ++ [x])) (l : List α) : P l := by
 have : ∀ r : List α, P r.reverse := by
  intro r
  induction r with
  | nil => exact h0
  | cons x r ih => rw [List.reverse_cons]; exact h1 _ _ ih
 have h := this l.reverse
 rwa [List.reverse_reverse] at h

theorem isrt_len (lt : α → α → Bool) (l : List α) : (isrt lt l).length = l.length := by
 induction l using snoc_ind with
 | h0 => rfl
 | h1 l x ih => rw [isrt_snoc, insR_len, ih]; simp

theorem insRev_mem (lt : α → α → Bool) (x y : α) : ∀ l, y ∈ insRev lt x l ↔ y = x ∨ y ∈ l
 | [] => by simp [insRev]
 | z :: r => by
  unfold insRev
  split
  ·simp only [List.mem_cons, insRev_mem lt x y r]
   constructor
   ·rintro (h | h | h)
    ·exact .inr (.inl h)
    ·exact .inl h
    ·exact .inr (.inr h)
   ·rintro (h | h | h)
    ·exact .inr (.inl h)
    ·exact .inl h
    ·exact .inr (.inr h)
  ·simp
theorem insR_mem (lt : α → α → Bool) (x y : α) (l : List α) : y ∈ insR lt x l ↔ y = x ∨ y ∈ l := by
 unfold insR; rw [List.mem_reverse, insRev_mem, List.mem_reverse]
theorem isrt_mem (lt : α → α → Bool) (y : α) (l : List α) : y ∈ isrt lt l ↔ y ∈ l := by
 induction l using snoc_ind with
 | h0 => simp [isrt]
 | h1 l x ih => rw [isrt_snoc, insR_mem, ih]; simp [or_comm]

/-- Below, so that it orders. -/
structure Below3 (lt : α → α → Bool) : Prop where
 asym : ∀ a b, lt a b = true → lt b a = false
 tr : ∀ a b c, lt b a = false → lt c b = false → lt c a = false

def Srt (lt : α → α → Bool) (l : List α) : Prop := l.Pairwise fun a b => lt b a = false

theorem Below3.lt_of {lt : α → α → Bool} (h : Below3 lt) {a b c : α} (h1 : lt b a = false) (h2 : lt b c = true) : lt a c = true := by
 cases h3 : lt a c
 ·have := h.tr c a b h3 h1
  rw [this] at h2; cases h2
 ·rfl
theorem Below3.lt_of2 {lt : α → α → Bool} (h : Below3 lt) {a b c : α} (h1 : lt a b = true) (h2 : lt c b = false) : lt a c = true := by
 cases h3 : lt a c
 ·have := h.tr b c a h2 h3
  rw [this] at h1; cases h1
 ·rfl

/-- An item's place in what is sorted. -/
theorem srt_split {lt : α → α → Bool} (h : Below3 lt) (x : α) : ∀ {l : List α}, Srt lt l → ∃ a b, l = a ++ b ∧ (∀ y ∈ a, lt x y = false) ∧ ∀ y ∈ b, lt x y = true
 | [], _ => ⟨[], [], rfl, by simp, by simp⟩
 | z :: l, hs => by
  have hs' := List.pairwise_cons.1 hs
  cases hz : lt x z
  ·obtain ⟨a, b, rfl, h1, h2⟩ := srt_split h x hs'.2
   refine ⟨z :: a, b, rfl, ?_, h2⟩
   intro y hy
   rcases List.mem_cons.1 hy with rfl | hy
   ·exact hz
   ·exact h1 y hy
  ·refine ⟨[], z :: l, rfl, by simp, ?_⟩
   intro y hy
   rcases List.mem_cons.1 hy with rfl | hy
   ·exact hz
   ·exact h.lt_of2 hz (hs'.1 y hy)

theorem insRev_split {lt : α → α → Bool} {x : α} {a : List α} (ha : ∀ y ∈ a, lt x y = false) : ∀ {b : List α}, (∀ y ∈ b, lt x y = true) → insRev lt x (b ++ a) = b ++ x :: a
 | [], _ => by
  cases a with
  | nil => rfl
  | cons y r => simp [insRev, ha y (by simp)]
 | y :: b, hb => by
  simp only [List.cons_append, insRev, hb y (by simp), if_true]
  rw [insRev_split ha fun z hz => hb z (by simp [hz])]
theorem insR_split {lt : α → α → Bool} {x : α} {a b : List α} (ha : ∀ y ∈ a, lt x y = false) (hb : ∀ y ∈ b, lt x y = true) : insR lt x (a ++ b) = a ++ x :: b := by
 unfold insR
 rw [List.reverse_append, insRev_split (by simpa using ha) (by simpa using hb)]
 simp

theorem insR_srt {lt : α → α → Bool} (h : Below3 lt) (x : α) {l : List α} (hs : Srt lt l) : Srt lt (insR lt x l) := by
 obtain ⟨a, b, rfl, h1, h2⟩ := srt_split h x hs
 rw [insR_split h1 h2]
 unfold Srt at hs ⊢
 rw [List.pairwise_append] at hs ⊢
 obtain ⟨p1, p2, p3⟩ := hs
 refine ⟨p1, List.pairwise_cons.2 ⟨fun y hy => h.asym _ _ (h2 y hy), p2⟩, fun y hy z hz => ?_⟩
 rcases List.mem_cons.1 hz with rfl | hz
 ·exact h1 y hy
 ·exact p3 y hy z hz

theorem isrt_srt {lt : α → α → Bool} (h : Below3 lt) (l : List α) : Srt lt (isrt lt l) := by
 induction l using snoc_ind with
 | h0 => exact List.Pairwise.nil
 | h1 l x ih => rw [isrt_snoc]; exact insR_srt h x ih

/-- Two sorted lists made one; of those that are as great the first list's stand ahead. -/
def mrg (lt : α → α → Bool) : List α → List α → List α
 | [], b => b
 | x :: a, [] => x :: a
 | x :: a, y :: b => if lt y x then y :: mrg lt (x :: a) b else x :: mrg lt a (y :: b)
termination_by a b => a.length + b.length

theorem mrg_nil_left (lt : α → α → Bool) (b : List α) : mrg lt [] b = b := by rw [mrg]
theorem mrg_nil_right (lt : α → α → Bool) (a : List α) : mrg lt a [] = a := by cases a <;> simp [mrg]
theorem mrg_cons (lt : α → α → Bool) (x y : α) (a b : List α) : mrg lt (x :: a) (y :: b) = if lt y x then y :: mrg lt (x :: a) b else x :: mrg lt a (y :: b) := by rw [mrg]

theorem mrg_two (lt : α → α → Bool) {a2 b2 : List α} : ∀ {a1 b1 : List α}, (∀ x ∈ a1, ∀ y ∈ b2, lt y x = false) → (∀ x ∈ a2, ∀ y ∈ b1, lt y x = true) → mrg lt (a1 ++ a2) (b1 ++ b2) = mrg lt a1 b1 ++ mrg lt a2 b2
 | [], [], _, _ => by simp [mrg_nil_left]
 | [], y :: b1, h1, h2 => by
  have ih := mrg_two lt (a1 := []) (b1 := b1) (a2 := a2) (b2 := b2) (by simp) (fun x hx z hz => h2 x hx z (by simp [hz]))
  simp only [List.nil_append, mrg_nil_left] at ih ⊢
  cases a2 with
  | nil => simp [mrg_nil_left]
  | cons x a2 =>
   simp only [List.cons_append, mrg_cons, h2 x (by simp) y (by simp), if_true]
   rw [ih]
 | x :: a1, [], h1, h2 => by
  have ih := mrg_two lt (a1 := a1) (b1 := []) (a2 := a2) (b2 := b2) (fun z hz => h1 z (by simp [hz])) (by simp)
  simp only [List.nil_append, mrg_nil_right] at ih ⊢
  cases b2 with
  | nil => simp [mrg_nil_right]
  | cons y b2 =>
   simp only [List.cons_append, mrg_cons, h1 x (by simp) y (by simp), Bool.false_eq_true, if_false]
   rw [ih]
 | x :: a1, y :: b1, h1, h2 => by
  simp only [List.cons_append, mrg_cons]
  split
  ·rw [List.cons_append, ← mrg_two lt (a1 := x :: a1) (b1 := b1) h1 (fun z hz w hw => h2 z hz w (by simp [hw]))]; rfl
  ·rw [List.cons_append, ← mrg_two lt (a1 := a1) (b1 := y :: b1) (fun z hz => h1 z (by simp [hz])) h2]; rfl
termination_by a1 b1 => a1.length + b1.length

theorem mrg_len (lt : α → α → Bool) : ∀ (a b : List α), (mrg lt a b).length = a.length + b.length
 | [], b => by simp [mrg_nil_left]
 | x :: a, [] => by simp [mrg_nil_right]
 | x :: a, y :: b => by
  rw [mrg_cons]
  split
  ·rw [List.length_cons, mrg_len lt (x :: a) b]; simp; omega
  ·rw [List.length_cons, mrg_len lt a (y :: b)]; simp; omega
termination_by a b => a.length + b.length
theorem mrg_mem (lt : α → α → Bool) (z : α) : ∀ (a b : List α), z ∈ mrg lt a b ↔ z ∈ a ∨ z ∈ b
 | [], b => by simp [mrg_nil_left]
 | x :: a, [] => by simp [mrg_nil_right]
 | x :: a, y :: b => by
  rw [mrg_cons]
  split
  ·rw [List.mem_cons, mrg_mem lt z (x :: a) b]; simp; grind
  ·rw [List.mem_cons, mrg_mem lt z a (y :: b)]; simp; grind
termination_by a b => a.length + b.length

theorem mrg_ins {lt : α → α → Bool} (h : Below3 lt) (x : α) {s t : List α} (hs : Srt lt s) (ht : Srt lt t) : mrg lt s (insR lt x t) = insR lt x (mrg lt s t) := by
 obtain ⟨s1, s2, rfl, h1, h2⟩ := srt_split h x hs
 obtain ⟨t1, t2, rfl, g1, g2⟩ := srt_split h x ht
 have c1 : ∀ a ∈ s1, ∀ b ∈ t2, lt b a = false := fun a ha b hb => h.asym _ _ (h.lt_of (h1 a ha) (g2 b hb))
 have c2 : ∀ a ∈ s2, ∀ b ∈ t1, lt b a = true := fun a ha b hb => h.lt_of (g1 b hb) (h2 a ha)
 rw [insR_split g1 g2, mrg_two lt c1 c2, insR_split]
 ·rw [show t1 ++ x :: t2 = (t1 ++ [x]) ++ t2 by simp, mrg_two lt (a1 := s1) (b1 := t1 ++ [x]) c1]
  ·have : mrg lt s1 (t1 ++ [x]) = mrg lt s1 t1 ++ [x] := by
    have := mrg_two lt (a1 := s1) (a2 := []) (b1 := t1) (b2 := [x]) (fun a ha b hb => by simp at hb; subst hb; exact h1 a ha) (by simp)
    rw [List.append_nil, mrg_nil_left] at this
    exact this
   rw [this]; simp
  ·intro a ha b hb
   rcases List.mem_append.1 hb with hb | hb
   ·exact c2 a ha b hb
   ·simp at hb; subst hb; exact h2 a ha
 ·intro y hy
  rcases (mrg_mem lt y s1 t1).1 hy with hy | hy
  ·exact h1 y hy
  ·exact g1 y hy
 ·intro y hy
  rcases (mrg_mem lt y s2 t2).1 hy with hy | hy
  ·exact h2 y hy
  ·exact g2 y hy

theorem mrg_isrt {lt : α → α → Bool} (h : Below3 lt) (a b : List α) : mrg lt (isrt lt a) (isrt lt b) = isrt lt (a ++ b) := by
 induction b using snoc_ind with
 | h0 => rw [isrt_nil, mrg_nil_right, List.append_nil]
 | h1 b x ih => rw [isrt_snoc, mrg_ins h x (isrt_srt h a) (isrt_srt h b), ih, ← List.append_assoc, isrt_snoc]

/-- Sorted piece by piece. -/
def chk (lt : α → α → Bool) (s : Nat) (l : List α) : List α := if h : s = 0 ∨ l.length ≤ s then isrt lt l else isrt lt (l.take s) ++ chk lt s (l.drop s)
termination_by l.length
decreasing_by simp at h ⊢; omega

theorem chk_le (lt : α → α → Bool) {s : Nat} {l : List α} (h : l.length ≤ s) : chk lt s l = isrt lt l := by rw [chk, dif_pos (.inr h)]
theorem chk_gt (lt : α → α → Bool) {s : Nat} {l : List α} (h0 : 0 < s) (h : s ≤ l.length) : chk lt s l = isrt lt (l.take s) ++ chk lt s (l.drop s) := by
 by_cases hl : l.length = s
 ·rw [chk_le lt (by omega), List.take_of_length_le (by omega), List.drop_of_length_le (by omega), chk_le lt (by simp), isrt_nil, List.append_nil]
 ·rw [chk, dif_neg (by omega)]
theorem chk_len (lt : α → α → Bool) (s : Nat) (l : List α) : (chk lt s l).length = l.length := by
 rw [chk]
 split
 ·exact isrt_len lt l
 ·rename_i h
  rw [List.length_append, isrt_len, chk_len lt s (l.drop s)]; simp; omega
termination_by l.length
decreasing_by simp; omega

/-- Two lists cut where the second one's beginning is below what is cut off the first. -/
theorem mrg_cut {lt : α → α → Bool} (h : Below3 lt) {a1 a2 b1 b2 : List α} (ha : Srt lt (a1 ++ a2)) (hb : Srt lt (b1 ++ b2)) (h1 : ∀ x y, a1.getLast? = some x → b2.head? = some y → lt y x = false) (h2 : ∀ x y, a2.head? = some x → b1.getLast? = some y → lt y x = true) :
  mrg lt (a1 ++ a2) (b1 ++ b2) = mrg lt a1 b1 ++ mrg lt a2 b2 := by
 unfold Srt at ha hb
 have last : ∀ {l1 l2 : List α}, (l1 ++ l2).Pairwise (fun a b => lt b a = false) → ∀ x ∈ l1, ∃ z, l1.getLast? = some z ∧ lt z x = false := by
  intro l1 l2 hp x hx
  have hp1 := (List.pairwise_append.1 hp).1
  have hne : l1 ≠ [] := fun e => by rw [e] at hx; cases hx
  refine ⟨l1.getLast hne, List.getLast?_eq_some_getLast hne, ?_⟩
  have hd := List.dropLast_concat_getLast hne
  rw [← hd] at hx hp1
  rcases List.mem_append.1 hx with hx | hx
  ·exact (List.pairwise_append.1 hp1).2.2 x hx _ (by simp)
  ·simp at hx; rw [hx]
   cases hb : lt (l1.getLast hne) (l1.getLast hne)
   ·rfl
   ·rw [h.asym _ _ hb] at hb; cases hb
 have head : ∀ {l1 l2 : List α}, (l1 ++ l2).Pairwise (fun a b => lt b a = false) → ∀ x ∈ l2, ∃ z, l2.head? = some z ∧ lt x z = false := by
  intro l1 l2 hp x hx
  have hp1 := (List.pairwise_append.1 hp).2.1
  cases l2 with
  | nil => cases hx
  | cons z l2 =>
   refine ⟨z, rfl, ?_⟩
   rcases List.mem_cons.1 hx with rfl | hx
   ·cases hb : lt x x
    ·rfl
    ·rw [h.asym _ _ hb] at hb; cases hb
   ·exact (List.pairwise_cons.1 hp1).1 x hx
 refine mrg_two lt (fun x hx y hy => ?_) (fun x hx y hy => ?_)
 ·obtain ⟨z, hz, hzx⟩ := last ha x hx
  obtain ⟨w, hw, hyw⟩ := head hb y hy
  exact h.tr _ _ _ hzx (h.tr _ _ _ (h1 z w hz hw) hyw)
 ·obtain ⟨z, hz, hxz⟩ := head ha x hx
  obtain ⟨w, hw, hwy⟩ := last hb y hy
  exact h.lt_of2 (h.lt_of hwy (h2 z w hz hw)) hxz
end StableSort

/-- Two neighbours change places. -/
theorem sw_step {α : Type} (p : List α) (y x : α) (r : List α) {n m : Nat} (hn : n = p.length) (hm : m = n + 1) : (p ++ y :: x :: r)[n]? = some y ∧ (p ++ y :: x :: r)[m]? = some x ∧ ((p ++ y :: x :: r).set m y)[n]? = some y ∧ ((p ++ y :: x :: r).set m y).set n x = p ++ x :: y :: r ∧
  ((p ++ y :: x :: r).set n x)[m]? = some x ∧ ((p ++ y :: x :: r).set n x).set m y = p ++ x :: y :: r := by
 subst hm
 subst hn
 have e1 : p ++ y :: x :: r = (p ++ [y]) ++ x :: r := by simp
 have s1 : (p ++ y :: x :: r).set (p.length + 1) y = p ++ y :: y :: r := by
  rw [e1, show p.length + 1 = (p ++ [y]).length by simp, List.set_append_right _ _ (Nat.le_refl _), Nat.sub_self, List.set_cons_zero]; simp
 have s2 : (p ++ y :: x :: r).set p.length x = p ++ x :: x :: r := by
  rw [List.set_append_right _ _ (Nat.le_refl _), Nat.sub_self, List.set_cons_zero]
 refine ⟨?_, ?_, ?_, ?_, ?_, ?_⟩
 ·rw [List.getElem?_append_right (Nat.le_refl _), Nat.sub_self]; rfl
 ·rw [e1, show p.length + 1 = (p ++ [y]).length by simp, List.getElem?_append_right (Nat.le_refl _), Nat.sub_self]; rfl
 ·rw [s1, List.getElem?_append_right (Nat.le_refl _), Nat.sub_self]; rfl
 ·rw [s1, List.set_append_right _ _ (Nat.le_refl _), Nat.sub_self, List.set_cons_zero]
 ·rw [s2, show p ++ x :: x :: r = (p ++ [x]) ++ x :: r by simp, show p.length + 1 = (p ++ [x]).length by simp, List.getElem?_append_right (Nat.le_refl _), Nat.sub_self]; rfl
 ·rw [s2, show p ++ x :: x :: r = (p ++ [x]) ++ x :: r by simp, show p.length + 1 = (p ++ [x]).length by simp, List.set_append_right _ _ (Nat.le_refl _), Nat.sub_self, List.set_cons_zero]; simp

theorem nil_or_snoc {α : Type} (l : List α) : l = [] ∨ ∃ i b, l = i ++ [b] := by
 induction l using snoc_ind with
 | h0 => exact .inl rfl
 | h1 l x _ => exact .inr ⟨l, x, rfl⟩

theorem split_at {α : Type} {l : List α} {n : Nat} (h : n ≤ l.length) : ∃ a b, l = a ++ b ∧ a.length = n := ⟨l.take n, l.drop n, (List.take_append_drop n l).symm, by rw [List.length_take]; omega⟩

theorem split_at1 {α : Type} {l : List α} {n : Nat} (h : n < l.length) : ∃ a x b, l = a ++ x :: b ∧ a.length = n := by
 obtain ⟨a, b, rfl, h1⟩ := split_at (Nat.le_of_lt h)
 cases b with
 | nil => simp at h; omega
 | cons x b => exact ⟨a, x, b, rfl, h1⟩

theorem mrg_one_left {α : Type} {lt : α → α → Bool} (h : Below3 lt) (x : α) {b1 b2 : List α} (hb : Srt lt (b1 ++ b2)) (h1 : ∀ y, b1.getLast? = some y → lt y x = true) (h2 : ∀ y, b2.head? = some y → lt y x = false) : mrg lt [x] (b1 ++ b2) = b1 ++ x :: b2 := by
 have := mrg_cut (a1 := []) (a2 := [x]) h (List.pairwise_singleton _ _) hb (by simp) (fun a y ha hy => by simp at ha; subst ha; exact h1 y hy)
 rw [List.nil_append, mrg_nil_left] at this
 rw [this]
 congr 1
 cases b2 with
 | nil => rw [mrg_nil_right]
 | cons y b2 => rw [mrg_cons, h2 y rfl, if_neg (by decide), mrg_nil_left]

theorem mrg_one_right {α : Type} {lt : α → α → Bool} (h : Below3 lt) (y : α) {a1 a2 : List α} (ha : Srt lt (a1 ++ a2)) (h1 : ∀ x, a1.getLast? = some x → lt y x = false) (h2 : ∀ x, a2.head? = some x → lt y x = true) : mrg lt (a1 ++ a2) [y] = a1 ++ y :: a2 := by
 have := mrg_cut (b1 := []) (b2 := [y]) h ha (List.pairwise_singleton _ _) (fun x z hx hz => by simp at hz; subst hz; exact h1 x hx) (by simp)
 rw [List.nil_append, mrg_nil_right] at this
 rw [this]
 congr 1
 cases a2 with
 | nil => rw [mrg_nil_left]
 | cons x a2 => rw [mrg_cons, h2 x rfl, if_pos rfl, mrg_nil_right]

theorem get_b {α : Type} {p a b q : List α} {k n : Nat} {y : α} (h : b[k]? = some y) (hn : n = p.length + a.length + k) : (p ++ a ++ b ++ q)[n]? = some y := by
 subst hn
 have hk := (List.getElem?_eq_some_iff.1 h).1
 rw [List.getElem?_append_left (by simp; omega), List.getElem?_append_right (by simp), show p.length + a.length + k - (p ++ a).length = k by simp, h]
theorem get_a {α : Type} {p a b q : List α} {k n : Nat} {y : α} (h : a[k]? = some y) (hn : n = p.length + k) : (p ++ a ++ b ++ q)[n]? = some y := by
 subst hn
 have hk := (List.getElem?_eq_some_iff.1 h).1
 rw [List.append_assoc, List.getElem?_append_left (by simp; omega), List.getElem?_append_right (by simp), show p.length + k - p.length = k by omega, h]

theorem mrg_none {α : Type} (lt : α → α → Bool) {a b : List α} (h : a = [] ∨ b = []) : mrg lt a b = a ++ b := by
 rcases h with rfl | rfl
 ·rw [mrg_nil_left]; rfl
 ·rw [mrg_nil_right, List.append_nil]

theorem last_get {α : Type} {l : List α} {x : α} (h : l.getLast? = some x) : 0 < l.length ∧ l[l.length - 1]? = some x := by
 rw [List.getLast?_eq_getElem?] at h
 exact ⟨by have := (List.getElem?_eq_some_iff.1 h).1; omega, h⟩
theorem head_get {α : Type} {l : List α} {x : α} (h : l.head? = some x) : 0 < l.length ∧ l[0]? = some x := by
 cases l with
 | nil => cases h
 | cons y l => exact ⟨by simp, h⟩

/-- Where the search ends, both lists may be cut. -/
theorem mrg_sym {α : Type} {lt : α → α → Bool} (h : Below3 lt) {a1 a2 b1 b2 : List α} {lo hi m : Nat} (ha : Srt lt (a1 ++ a2)) (hb : Srt lt (b1 ++ b2)) (hm : a1.length + b1.length = m) (hlo : lo = 0 ∨ m = lo + (b1.length + b2.length)) (hhi : hi = a1.length + a2.length ∨ hi = m)
  (h1 : a1.length = lo ∨ ∃ y z, (a1 ++ a2)[a1.length - 1]? = some z ∧ (b1 ++ b2)[m - a1.length]? = some y ∧ lt y z = false) (h2 : a1.length = hi ∨ ∃ y z, (a1 ++ a2)[a1.length]? = some z ∧ (b1 ++ b2)[m - 1 - a1.length]? = some y ∧ lt y z = true) :
  mrg lt (a1 ++ a2) (b1 ++ b2) = mrg lt a1 b1 ++ mrg lt a2 b2 := by
 refine mrg_cut h ha hb (fun x y hx hy => ?_) (fun x y hx hy => ?_)
 ·obtain ⟨l1, hx⟩ := last_get hx
  obtain ⟨l2, hy⟩ := head_get hy
  rcases h1 with h1 | ⟨y', x', g1, g2, g3⟩
  ·rcases hlo with hlo | hlo <;> omega
  ·rw [List.getElem?_append_left (by omega), hx] at g1
   rw [show m - a1.length = b1.length by omega, List.getElem?_append_right (Nat.le_refl _), Nat.sub_self, hy] at g2
   injection g1 with g1; injection g2 with g2
   rw [g1, g2]; exact g3
 ·obtain ⟨l1, hx⟩ := head_get hx
  obtain ⟨l2, hy⟩ := last_get hy
  rcases h2 with h2 | ⟨y', x', g1, g2, g3⟩
  ·rcases hhi with hhi | hhi <;> omega
  ·rw [List.getElem?_append_right (Nat.le_refl _), Nat.sub_self, hx] at g1
   rw [show m - 1 - a1.length = b1.length - 1 by omega, List.getElem?_append_left (by omega), hy] at g2
   injection g1 with g1; injection g2 with g2
   rw [g1, g2]; exact g3

theorem get_some {α : Type} {l : List α} {k : Nat} (h : k < l.length) : ∃ x, l[k]? = some x ∧ x ∈ l := ⟨l[k], List.getElem?_eq_getElem h, List.getElem_mem h⟩

theorem wsub {x y z : Nat} (h : x = y + z) (hb : x ≤ 9007199254740992) : IntKind.i64.wrap ((x : Int) - (y : Int)) = (z : Int) := by
 rw [wrap_i64_of (by omega) (by omega)]; omega
theorem wsub1 {x z : Nat} (h : x = z + 1) (hb : x ≤ 9007199254740992) : IntKind.i64.wrap ((x : Int) - 1) = (z : Int) := by
 rw [wrap_i64_of (by omega) (by omega)]; omega
theorem wadd {x y z : Nat} (h : x + y = z) (hb : z ≤ 9007199254740992) : IntKind.i64.wrap ((x : Int) + (y : Int)) = (z : Int) := by
 rw [wrap_i64_of (by omega) (by omega)]; omega
theorem wadd1 {x z : Nat} (h : x + 1 = z) (hb : z ≤ 9007199254740992) : IntKind.i64.wrap ((x : Int) + 1) = (z : Int) := by
 rw [wrap_i64_of (by omega) (by omega)]; omega

/-- A fact that is kept from being split. -/
def Hid (p : Prop) : Prop := p

theorem sy1 {lo k h bl : Nat} (h1 : lo ≤ k) (h2 : k < h) (h3 : h ≤ lo + bl) : h - 1 - k < bl := by omega
theorem sy2 {P s t : Nat} : (P + s + (P + t)) / 2 = P + (s + t) / 2 := by omega
theorem sy3 {s t : Nat} (h : s < t) : s ≤ (s + t) / 2 ∧ (s + t) / 2 < t := by omega
theorem sy4 {P h M Z k : Nat} (hZ : P + h + M = Z + 1) (hk : k < h) : Z = P + k + (M + (h - 1 - k)) := by omega
theorem sy5 {P M al s t : Nat} (h1 : s < t) (h2 : t ≤ al) (h3 : P + al = M) (h4 : M ≤ 281474976710656) : P + s + (P + t) ≤ 562949953421312 := by omega
theorem sy6 {M N bl L j : Nat} (h1 : j < bl) (h2 : M + bl = N) (h3 : N ≤ L) : ((M + j : Nat) : Int) < (L : Int) := by omega
theorem sy7 {h k : Nat} (hk : k < h) : h - (k + 1) = h - 1 - k := by omega
theorem sy8 {lo s h bl : Nat} (h1 : lo ≤ s) (h3 : h ≤ lo + bl) : h - s ≤ bl := by omega
theorem sy9 {P h M s b1 : Nat} (h1 : b1 = h - s) (h2 : s ≤ h) : P + h + M = P + s + (M + b1) := by omega
theorem len_swap {α : Type} (p a1 a2 b1 b2 q : List α) : (p ++ (a1 ++ a2) ++ (b1 ++ b2) ++ q).length = (p ++ a1 ++ b1 ++ (a2 ++ b2 ++ q)).length := by simp; omega
theorem len_swap2 {α : Type} (lt : α → α → Bool) (p a1 a2 b1 b2 q : List α) : (p ++ (a1 ++ a2) ++ (b1 ++ b2) ++ q).length = (p ++ mrg lt a1 b1 ++ a2 ++ b2 ++ q).length := by simp [mrg_len]; omega
theorem len_pos {α : Type} {l : List α} : decide (0 < l.length) = !l.isEmpty := by cases l <;> simp
theorem dlt {a b n : Nat} (h : b = a + n) : decide (a < b) = decide (0 < n) := decide_eq_decide.2 (by omega)

end Go.Proofs.YtgmpceijcdimkaaGreatDoor
namespace Go.Proofs.YtgmpceijcdimkaaGreatDoor
open Go Go.Sx

/-- Which of two texts stands ahead. -/
def lexC : List UInt8 → List UInt8 → Int
 | [], [] => 0
 | [], _ :: _ => -1
 | _ :: _, [] => 1
 | x :: a, y :: b => if x < y then -1 else if y < x then 1 else lexC a b

def findD (a b : List UInt8) : Option Nat := (List.range (min a.length b.length)).find? fun i => a[i]! != b[i]!

theorem findD_cons (x y : UInt8) (a b : List UInt8) : findD (x :: a) (y :: b) = if x = y then (findD a b).map (· + 1) else some 0 := by
 unfold findD
 have e : min (x :: a).length (y :: b).length = min a.length b.length + 1 := by simp only [List.length_cons]; omega
 rw [e, List.range_succ_eq_map, List.find?_cons]
 by_cases h : x = y
 ·subst h
  have : ((x :: a)[0]! != (x :: b)[0]!) = false := by simp
  rw [this]
  simp only [if_true]
  rw [List.find?_map]
  congr 1
 ·have : ((x :: a)[0]! != (y :: b)[0]!) = true := by simpa using h
  rw [this, if_neg h]

theorem lex_find : ∀ a b : List UInt8, lexC a b = match findD a b with
  | some i => if a[i]! < b[i]! then -1 else 1
  | none => if a.length < b.length then -1 else if a.length > b.length then 1 else 0
 | [], [] => rfl
 | [], y :: b => by simp [lexC, findD]
 | x :: a, [] => by simp [lexC, findD]
 | x :: a, y :: b => by
  have ih := lex_find a b
  rw [findD_cons]
  simp only [lexC]
  by_cases h : x = y
  ·subst h
   rw [if_pos rfl, if_neg (by simp), if_neg (by simp), ih]
   cases findD a b with
   | none => simp
   | some i => simp
  ·rw [if_neg h]
   simp only [List.getElem!_cons_zero]
   by_cases h1 : x < y
   ·rw [if_pos h1, if_pos h1]
   ·rw [if_neg h1, if_neg h1, if_pos]
    have h1' : ¬ x.toNat < y.toNat := h1
    have h' : x.toNat ≠ y.toNat := fun e => h (UInt8.toNat_inj.1 e)
    show y.toNat < x.toNat
    omega

theorem get_bang (l : List UInt8) (i : Nat) : (toB l)[i]! = l[i]! := by
 rw [getElem!_def, getElem!_def, getT]

theorem cmp_lex (a b : List UInt8) : Extern.BytealgCompare.cmp (toB a) (toB b) = lexC a b := by
 rw [lex_find]
 unfold Extern.BytealgCompare.cmp findD
 have e1 : (toB a).size = a.length := rfl
 have e2 : (toB b).size = b.length := rfl
 simp only [e1, e2, get_bang]
 first | done | rfl | (split <;> split <;> simp_all)

def cmpEntry : Array Value → Sem Value := Extern.BytealgCompare.compare

theorem f_cmpstring (a b : List UInt8) : Meets Tryz.prog E0 n_bytealg_abigen_runtime_cmpstring [Str (toB a), Str (toB b)] [] (I (lexC a b)) [] := by
 refine meets_now rfl rfl fun A φ w vals hv => ?_
 simp only [CAs] at hv
 obtain ⟨x, _, e1, hx, y, _, rfl, hy, rfl⟩ := hv
 obtain ⟨rfl, _⟩ := ca_v hx
 obtain ⟨rfl, _⟩ := ca_v hy
 have e2 : vals = #[.string (toB a), .string (toB b)] := by cases vals; simp_all
 subst e2
 refine ⟨.int .i64 (lexC a b), ?_, ?_⟩
 ·rw [run_callFunc_extern Tryz.func140 (by kernel_rfl) (by kernel_rfl) (by kernel_rfl) (show Extern.find _ = some cmpEntry by kernel_rfl)]
  show (Result.andThen ((cmpEntry #[.string (toB a), .string (toB b)]).run Tryz.prog w) _) = _
  have : (cmpEntry #[.string (toB a), .string (toB b)]).run Tryz.prog w = .ok (.int .i64 (Extern.BytealgCompare.cmp (toB a) (toB b))) w := rfl
  rw [this, cmp_lex]
  rfl
 ·simp only [CA, CT]
  exact ⟨trivial, rfl⟩

theorem f_strings_Compare (a b : List UInt8) : Meets Tryz.prog E0 n_strings_Compare [Str (toB a), Str (toB b)] [] (I (lexC a b)) [] := by
 have h : Meets Tryz.prog E0 n_bytealg_CompareString [Str (toB a), Str (toB b)] [] (I (lexC a b)) [] := by
  refine st0 m_bytealg_CompareString ?_
  simp only [go_sem, s_bytealg_CompareString]
  refine Cl_plain (f_cmpstring a b) ?_
  simp only [go_sem]
  refine wE ?_
  simp only [go_sem, r_bytealg_CompareString]
 refine st0 m_strings_Compare ?_
 simp only [go_sem, s_strings_Compare]
 refine Cl_plain h ?_
 simp only [go_sem]
 refine wE ?_
 simp only [go_sem, r_strings_Compare]

theorem lt8 {x y : UInt8} : x < y ↔ x.toNat < y.toNat := Iff.rfl

theorem lex_flip : ∀ a b : List UInt8, lexC b a = -lexC a b
 | [], [] => rfl
 | [], _ :: _ => rfl
 | _ :: _, [] => rfl
 | x :: a, y :: b => by
  have ih := lex_flip a b
  simp only [lexC]
  by_cases h1 : x < y
  ·have h2 : ¬ y < x := by rw [lt8] at h1 ⊢; omega
   rw [if_pos h1, if_neg h2, if_pos h1] <;> rfl
  ·by_cases h2 : y < x
   ·rw [if_pos h2, if_neg h1, if_pos h2]
   ·rw [if_neg h2, if_neg h1, if_neg h1, if_neg h2, ih]

theorem lex_tr : ∀ a b c : List UInt8, lexC a b ≤ 0 → lexC b c ≤ 0 → lexC a c ≤ 0
 | [], [], [], _, _ => by simp [lexC]
 | [], _ :: _, [], _, h => by simp [lexC] at h
 | [], _, _ :: _, _, _ => by simp [lexC]
 | _ :: _, [], _, h, _ => by simp [lexC] at h
 | _ :: _, _ :: _, [], _, h => by simp [lexC] at h
 | x :: a, y :: b, z :: c, h1, h2 => by
  have ih := lex_tr a b c
  simp only [lexC] at h1 h2 ⊢
  by_cases q1 : x < y
  ·by_cases q2 : y < z
   ·have : x < z := by rw [lt8] at *; omega
    rw [if_pos this]; decide
   ·by_cases q3 : z < y
    ·rw [if_neg q2, if_pos q3] at h2; exact absurd h2 (by decide)
    ·have : x < z := by rw [lt8] at *; omega
     rw [if_pos this]; decide
  ·by_cases q4 : y < x
   ·rw [if_neg q1, if_pos q4] at h1; exact absurd h1 (by decide)
   ·rw [if_neg q1, if_neg q4] at h1
    by_cases q2 : y < z
    ·have : x < z := by rw [lt8] at *; omega
     rw [if_pos this]; decide
    ·by_cases q3 : z < y
     ·rw [if_neg q2, if_pos q3] at h2; exact absurd h2 (by decide)
     ·rw [if_neg q2, if_neg q3] at h2
      have n1 : ¬ x < z := by rw [lt8] at *; omega
      have n2 : ¬ z < x := by rw [lt8] at *; omega
      rw [if_neg n1, if_neg n2]
      exact ih h1 h2

end Go.Proofs.YtgmpceijcdimkaaGreatDoor
namespace Go.Proofs.YtgmpceijcdimkaaGreatDoor
open Go Go.Sx

/-- A wide number. -/
abbrev WV (n : Nat) : AV := .ag [U ((n / 18446744073709551616 : Nat) : Int), U ((n % 18446744073709551616 : Nat) : Int)]

theorem and_one (n : Nat) : (n % 18446744073709551616) &&& (1 % 18446744073709551616) = n % 2 := by
 rw [show 1 % 18446744073709551616 = 2 ^ 1 - 1 from rfl, Nat.and_two_pow_sub_one_eq_mod]; omega

theorem f_ref01_bit (a i : Nat) (hi : i < 128) : Meets Tryz.prog E0 n_ref01_bit [WV a, I i] [] (U (a / 2 ^ i % 2 : Nat)) [] := by
 refine m_ref01_bit (by simp) (shut0 rfl) (shut0 rfl) (by simp) (by simp [keysOf]) ?_
 simp only [s_ref01_bit, go_sem, ↓reduceIte, Nat.reduceEqDiff, Nat.reduceAdd, Nat.reduceLeDiff, reduceCtorEq]
 refine W_split rfl (fun h => ?_) (fun h => ?_)
 ·simp at h
  have e : IntKind.u64.wrap (IntKind.i64.wrap ((i : Int) - 64)) = ((i - 64 : Nat) : Int) := by rw [wrap_i64_of (by omega) (by omega), wrap_u64]; omega
  simp only [go_sem, e, ↓reduceIte, Nat.reduceEqDiff, Nat.reduceAdd, Nat.reduceLeDiff, reduceCtorEq]
  refine wends (Or.inl rfl) ?_ rfl
  simp only [r_ref01_bit, go_sem, ↓reduceIte, Nat.reduceEqDiff, and_one]
  rw [Nat.min_eq_left (by omega), show 18446744073709551616 = 2 ^ 64 from rfl, Nat.div_div_eq_div_mul, ← Nat.pow_add, show 64 + (i - 64) = i by omega]
 ·simp at h
  have e : IntKind.u64.wrap (i : Int) = (i : Int) := by rw [wrap_u64]; omega
  simp only [go_sem, e, ↓reduceIte, Nat.reduceEqDiff, Nat.reduceAdd, Nat.reduceLeDiff, reduceCtorEq]
  refine wends (Or.inl rfl) ?_ rfl
  simp only [r_ref01_bit, go_sem, ↓reduceIte, Nat.reduceEqDiff, and_one]
  rw [Nat.min_eq_left (by omega)]
  congr 5
  have h64 : (2 : Nat) ^ 64 = 2 ^ i * 2 ^ (64 - i) := by rw [← Nat.pow_add]; congr 1; omega
  have h2 : (2 : Nat) ^ (64 - i) = 2 * 2 ^ (63 - i) := by rw [← Nat.pow_succ']; congr 1; omega
  rw [show 18446744073709551616 = 2 ^ 64 from rfl, h64, Nat.mod_mul_right_div_self, h2, Nat.mod_mul_right_mod]

theorem or_pow {x j : Nat} (h : x / 2 ^ j % 2 = 0) : x ||| 2 ^ j = x + 2 ^ j := by
 have hp : 0 < 2 ^ j := Nat.two_pow_pos j
 have hx : x = 2 ^ (j + 1) * (x / 2 ^ (j + 1)) + x % 2 ^ j := by
  have h1 := Nat.div_add_mod x (2 ^ j)
  have h2 : x / 2 ^ j = 2 * (x / 2 ^ (j + 1)) := by
   rw [Nat.pow_succ, ← Nat.div_div_eq_div_mul]; omega
  rw [Nat.pow_succ, Nat.mul_assoc, ← Nat.pow_succ, ← h2]; exact h1.symm
 have hr : x % 2 ^ j < 2 ^ j := Nat.mod_lt _ hp
 generalize x / 2 ^ (j + 1) = q at hx
 generalize x % 2 ^ j = r at hx hr
 subst hx
 have hr1 : r < 2 ^ (j + 1) := by rw [Nat.pow_succ]; omega
 have hr2 : 2 ^ j + r < 2 ^ (j + 1) := by rw [Nat.pow_succ]; omega
 rw [Nat.two_pow_add_eq_or_of_lt hr1, Nat.or_assoc, Nat.or_comm r, ← Nat.mul_one (2 ^ j), ← Nat.two_pow_add_eq_or_of_lt hr, Nat.mul_one, ← Nat.two_pow_add_eq_or_of_lt hr2, ← Nat.two_pow_add_eq_or_of_lt hr1]
 omega

theorem shl_one {j : Nat} (h : j < 64) : 2 ^ (min j 64) % 18446744073709551616 % 18446744073709551616 = 2 ^ j := by
 rw [Nat.min_eq_left (by omega), Nat.mod_mod, show 18446744073709551616 = 2 ^ 64 from rfl]
 exact Nat.mod_eq_of_lt (Nat.pow_lt_pow_right (by decide) h)

theorem low_bit {a i : Nat} (h : i < 64) : a % 18446744073709551616 / 2 ^ i % 2 = a / 2 ^ i % 2 := by
 have h64 : (2 : Nat) ^ 64 = 2 ^ i * 2 ^ (64 - i) := by rw [← Nat.pow_add]; congr 1; omega
 have h2 : (2 : Nat) ^ (64 - i) = 2 * 2 ^ (63 - i) := by rw [← Nat.pow_succ']; congr 1; omega
 rw [show 18446744073709551616 = 2 ^ 64 from rfl, h64, Nat.mod_mul_right_div_self, h2, Nat.mod_mul_right_mod]

theorem f_ref01_with (a i : Nat) (hi : i < 128) (ha : a < 340282366920938463463374607431768211456) (h0 : a / 2 ^ i % 2 = 0) : Meets Tryz.prog E0 n_ref01_with [WV a, I i] [] (WV (a + 2 ^ i)) [] := by
 refine m_ref01_with (by simp) (shut0 rfl) (shut0 rfl) (by simp) (by simp [keysOf]) ?_
 simp only [s_ref01_with, go_sem, ↓reduceIte, Nat.reduceEqDiff, Nat.reduceAdd, Nat.reduceLeDiff, reduceCtorEq]
 refine W_split rfl (fun h => ?_) (fun h => ?_)
 ·simp at h
  have e : IntKind.u64.wrap (IntKind.i64.wrap ((i : Int) - 64)) = ((i - 64 : Nat) : Int) := by rw [wrap_i64_of (by omega) (by omega), wrap_u64]; omega
  simp only [go_sem, e, ↓reduceIte, Nat.reduceEqDiff, Nat.reduceAdd, Nat.reduceLeDiff, reduceCtorEq]
  refine wends (Or.inl rfl) ?_ rfl
  simp only [r_ref01_with, go_sem, ↓reduceIte, Nat.reduceEqDiff, Nat.reduceAdd, Nat.reduceLeDiff, reduceCtorEq]
  have e1 : a / 18446744073709551616 % 18446744073709551616 = a / 18446744073709551616 := by omega
  have hb : a / 18446744073709551616 / 2 ^ (i - 64) % 2 = 0 := by
   rw [show 18446744073709551616 = 2 ^ 64 from rfl, Nat.div_div_eq_div_mul, ← Nat.pow_add, show 64 + (i - 64) = i by omega]; exact h0
  have hp : 2 ^ i = 18446744073709551616 * 2 ^ (i - 64) := by rw [show 18446744073709551616 = 2 ^ 64 from rfl, ← Nat.pow_add]; congr 1; omega
  rw [e1, shl_one (by omega), or_pow hb, hp]
  simp only [Option.some.injEq, AV.ag.injEq, List.cons.injEq, AV.t.injEq, T.v.injEq, Value.int.injEq, true_and, and_true]
  omega
 ·simp at h
  have e : IntKind.u64.wrap (i : Int) = (i : Int) := by rw [wrap_u64]; omega
  simp only [go_sem, e, ↓reduceIte, Nat.reduceEqDiff, Nat.reduceAdd, Nat.reduceLeDiff, reduceCtorEq]
  refine wends (Or.inl rfl) ?_ rfl
  simp only [r_ref01_with, go_sem, ↓reduceIte, Nat.reduceEqDiff, Nat.reduceAdd, Nat.reduceLeDiff, reduceCtorEq]
  have hb : a % 18446744073709551616 / 2 ^ i % 2 = 0 := by rw [low_bit (by omega)]; exact h0
  have hlt : a % 18446744073709551616 + 2 ^ i < 18446744073709551616 := by
   rw [← or_pow hb]
   exact Nat.or_lt_two_pow (n := 64) (Nat.mod_lt _ (by decide)) (Nat.pow_lt_pow_right (by decide) (by omega))
  rw [Nat.mod_mod, shl_one (by omega), or_pow hb]
  generalize 2 ^ i = x at *
  simp only [Option.some.injEq, AV.ag.injEq, List.cons.injEq, AV.t.injEq, T.v.injEq, Value.int.injEq, true_and, and_true]
  omega

theorem bit_lt (a i : Nat) : a / 2 ^ i % 2 < 2 := Nat.mod_lt _ (by decide)

theorem mod_next (a i : Nat) : a % 2 ^ (i + 1) = a % 2 ^ i + 2 ^ i * (a / 2 ^ i % 2) := by
 rw [Nat.pow_succ, Nat.mod_mul]

theorem small_bit {s i : Nat} (h : s < 2 ^ i) : s / 2 ^ i % 2 = 0 := by rw [Nat.div_eq_of_lt h]

theorem pow_le {i : Nat} (h : i ≤ 128) : 2 ^ i ≤ 340282366920938463463374607431768211456 :=
 Nat.le_trans (Nat.pow_le_pow_right (by decide) h) (by decide)

theorem add_step {a b i c s t : Nat} (h : a % 2 ^ i + b % 2 ^ i = c * 2 ^ i + s) (hs : s < 2 ^ i) (ht : t = a / 2 ^ i % 2 + b / 2 ^ i % 2 + c) (hc : c ≤ 1) :
  t ≤ 3 ∧ (t % 2 = 1 → a % 2 ^ (i + 1) + b % 2 ^ (i + 1) = t / 2 * 2 ^ (i + 1) + (s + 2 ^ i)) ∧ (t % 2 = 0 → a % 2 ^ (i + 1) + b % 2 ^ (i + 1) = t / 2 * 2 ^ (i + 1) + s) := by
 have h1 := bit_lt a i
 have h2 := bit_lt b i
 rw [mod_next, mod_next, Nat.pow_succ]
 generalize a / 2 ^ i % 2 = x at *
 generalize b / 2 ^ i % 2 = y at *
 generalize a % 2 ^ i = A at *
 generalize b % 2 ^ i = B at *
 generalize 2 ^ i = P at *
 have hx : x = 0 ∨ x = 1 := by omega
 have hy : y = 0 ∨ y = 1 := by omega
 have hc : c = 0 ∨ c = 1 := by omega
 rcases hx with rfl | rfl <;> rcases hy with rfl | rfl <;> rcases hc with rfl | rfl <;> subst ht <;> simp at * <;> omega

theorem f_ref01_Add (a b : Nat) (ha : a < 340282366920938463463374607431768211456) (hb : b < 340282366920938463463374607431768211456) :
  Meets Tryz.prog E0 n_ref01_Add [WV a, WV b] [] (.tp [WV ((a + b) % 340282366920938463463374607431768211456), Bo (decide (340282366920938463463374607431768211456 ≤ a + b))]) [] := by
 refine m_ref01_Add (by simp) (shut0 rfl) (shut0 rfl) (by simp) (by simp [keysOf]) ?_
 simp only [s_ref01_Add, go_sem, ↓reduceIte, Nat.reduceEqDiff, Nat.reduceAdd, Nat.reduceLeDiff, reduceCtorEq]
 refine W_loop (fun x : Nat × Nat × Nat => 128 - x.1) (fun x => x.1 ≤ 128 ∧ a % 2 ^ x.1 + b % 2 ^ x.1 = x.2.1 * 2 ^ x.1 + x.2.2 ∧ x.2.2 < 2 ^ x.1 ∧ x.2.1 ≤ 1)
  (fun x => [(2, .ptr 100 0), (3, .ptr 101 0), (4, .ptr 102 0), (5, Bo false), (6, .ptr 104 0), (7, U x.2.1), (8, I x.1)])
  (fun x => [(104, .box [U (x.2.2 / 18446744073709551616 : Nat), U (x.2.2 % 18446744073709551616 : Nat)]), (102, .box [U (0 : Nat), U (0 : Nat)]),
   (101, .box [U (b / 18446744073709551616 : Nat), U (b % 18446744073709551616 : Nat)]), (100, .box [U (a / 18446744073709551616 : Nat), U (a % 18446744073709551616 : Nat)])])
  (0, 0, 0) (by simp [Nat.mod_one]) ?_ ?_
 ·refine subL [] [] ?_ ?_ ?_ (by simp) (by simp [keysOf]) (by simp [keysOf])
  ·simp [envS, go_sem, wkV, AV.ids, keysOf, ren]
  ·simp [stoS, go_sem, wkV, wkL, wkO, AV.ids, Ob.ids, idsL, keysOf, ren, AV.one]
  ·simp [keysOf, ren]
 ·rintro ⟨i, c, s⟩ ⟨hi, hA, hs, hc⟩
  simp only at hi hA hs hc
  simp only [go_sem, ↓reduceIte, Nat.reduceEqDiff, Nat.reduceAdd, Nat.reduceLeDiff, reduceCtorEq]
  refine W_split rfl (fun h => ?_) (fun h => ?_)
  ·simp at h
   have hstep := add_step hA hs rfl hc
   have e : ((a / 2 ^ i % 2 + b / 2 ^ i % 2) % 18446744073709551616 + c) % 18446744073709551616 = a / 2 ^ i % 2 + b / 2 ^ i % 2 + c := by omega
   have ei : IntKind.i64.wrap ((i : Int) + 1) = ((i + 1 : Nat) : Int) := by rw [wrap_i64_of (by omega) (by omega)]; omega
   have hsP : s < 340282366920938463463374607431768211456 := Nat.lt_of_lt_of_le hs (pow_le hi)
   generalize ht : a / 2 ^ i % 2 + b / 2 ^ i % 2 + c = t at *
   simp only [go_sem, ↓reduceIte, Nat.reduceEqDiff, Nat.reduceAdd, Nat.reduceLeDiff, reduceCtorEq]
   refine Cl_plain (f_ref01_bit a i (by omega)) ?_
   simp only [go_sem, ↓reduceIte, Nat.reduceEqDiff, Nat.reduceAdd, Nat.reduceLeDiff, reduceCtorEq]
   refine Cl_plain (f_ref01_bit b i (by omega)) ?_
   simp only [go_sem, e, ↓reduceIte, Nat.reduceEqDiff, Nat.reduceAdd, Nat.reduceLeDiff, reduceCtorEq]
   refine R_fin (okp rfl rfl rfl okp0) ?_
   simp only [go_sem, and_one, ↓reduceIte, Nat.reduceEqDiff, Nat.reduceAdd, Nat.reduceLeDiff, reduceCtorEq]
   refine W_split rfl (fun h1 => ?_) (fun h1 => ?_)
   ·simp at h1
    simp only [go_sem, ↓reduceIte, Nat.reduceEqDiff, Nat.reduceAdd, Nat.reduceLeDiff, reduceCtorEq]
    refine Cl_plain (f_ref01_with s i (by omega) hsP (small_bit hs)) ?_
    simp only [go_sem, ei, ↓reduceIte, Nat.reduceEqDiff, Nat.reduceAdd, Nat.reduceLeDiff, reduceCtorEq]
    refine rd_of (i + 1, t / 2, s + 2 ^ i) (by simp only; omega) ⟨by simp only; omega, hstep.2.1 h1, by simp only [Nat.pow_succ]; omega, by simp only; omega⟩ ?_
    refine subL [] [] ?_ ?_ ?_ (by simp) (by simp [keysOf]) (by simp [keysOf])
    ·simp [envS, go_sem, wkV, AV.ids, keysOf, ren]
    ·simp [stoS, go_sem, wkV, wkL, wkO, AV.ids, Ob.ids, idsL, keysOf, ren, AV.one]
    ·simp [keysOf, ren]
   ·simp at h1
    simp only [go_sem, ei, ↓reduceIte, Nat.reduceEqDiff, Nat.reduceAdd, Nat.reduceLeDiff, reduceCtorEq]
    refine rd_of (i + 1, t / 2, s) (by simp only; omega) ⟨by simp only; omega, hstep.2.2 (by omega), by simp only [Nat.pow_succ]; omega, by simp only; omega⟩ ?_
    refine subL [] [] ?_ ?_ ?_ (by simp) (by simp [keysOf]) (by simp [keysOf])
    ·simp [envS, go_sem, wkV, AV.ids, keysOf, ren]
    ·simp [stoS, go_sem, wkV, wkL, wkO, AV.ids, Ob.ids, idsL, keysOf, ren, AV.one]
    ·simp [keysOf, ren]
  ·simp only [go_sem, ↓reduceIte, Nat.reduceEqDiff, Nat.reduceAdd, Nat.reduceLeDiff, reduceCtorEq]
   refine wends (Or.inl rfl) ?_ rfl
   simp only [r_ref01_Add, go_sem, ↓reduceIte, Nat.reduceEqDiff, Nat.reduceAdd, Nat.reduceLeDiff, reduceCtorEq]
   simp at h
   have e : i = 128 := by omega
   subst e
   rw [Nat.mod_eq_of_lt (show a < 2 ^ 128 from ha), Nat.mod_eq_of_lt (show b < 2 ^ 128 from hb), show 2 ^ 128 = 340282366920938463463374607431768211456 from rfl] at hA
   rw [show 2 ^ 128 = 340282366920938463463374607431768211456 from rfl] at hs
   simp only [Option.some.injEq, AV.tp.injEq, AV.ag.injEq, List.cons.injEq, AV.t.injEq, T.v.injEq, Value.int.injEq, Value.bool.injEq, decide_eq_decide, true_and, and_true]
   omega

end Go.Proofs.YtgmpceijcdimkaaGreatDoor
namespace Go.Proofs.YtgmpceijcdimkaaGreatDoor
open Go Go.Sx

theorem f_bits_Add64 (x y c : Nat) (hc : c ≤ 1) : Meets Tryz.prog E0 n_bits_Add64 [U x, U y, U c] [] (.tp [U ((x + y + c) % 18446744073709551616 : Nat), U ((x + y + c) / 18446744073709551616 : Nat)]) [] :=
 add64_meets Tryz.func155 (by kernel_rfl) (by kernel_rfl) (by kernel_rfl) (by kernel_rfl) x y c hc

theorem f_wide_Add (a b : Nat) (ha : a < 340282366920938463463374607431768211456) (hb : b < 340282366920938463463374607431768211456) : Meets Tryz.prog E0 n_wide_Add [WV a, WV b] [] (.tp [WV ((a + b) % 340282366920938463463374607431768211456), Bo (decide (340282366920938463463374607431768211456 ≤ a + b))]) [] := by
 refine st0 m_wide_Add ?_
 simp only [go_sem, s_wide_Add]
 refine Cl_plain (f_bits_Add64 _ _ _ (by decide)) ?_
 simp only [go_sem]
 refine Cl_plain (f_bits_Add64 _ _ _ (by omega)) ?_
 simp only [go_sem]
 refine wE ?_
 simp only [go_sem, r_wide_Add]
 simp only [Option.some.injEq, AV.tp.injEq, AV.ag.injEq, List.cons.injEq, AV.t.injEq, T.v.injEq, T.sl.injEq, Value.int.injEq, Value.bool.injEq, Value.string.injEq, decide_eq_decide, true_and, and_true]
 omega

theorem f_ref01_Double (a : Nat) (ha : a < 340282366920938463463374607431768211456) : Meets Tryz.prog E0 n_ref01_Double [WV a] [] (.tp [WV (2 * a % 340282366920938463463374607431768211456), Bo (decide (340282366920938463463374607431768211456 ≤ 2 * a))]) [] := by
 refine st0 m_ref01_Double ?_
 simp only [go_sem, s_ref01_Double]
 refine R_fin (okp rfl rfl rfl okp0) ?_
 simp only [go_sem]
 refine wE ?_
 simp only [go_sem, r_ref01_Double]
 have e1 : (a / 18446744073709551616 * 2 ^ (min 1 64) % 18446744073709551616) % 18446744073709551616 ||| (a % 18446744073709551616 / 2 ^ (min 63 64)) % 18446744073709551616 = a / 18446744073709551616 * 2 % 18446744073709551616 + a % 18446744073709551616 / 9223372036854775808 := by
  have h1 : a % 18446744073709551616 / 2 ^ (min 63 64) < 2 ^ 1 := by
   rw [show 2 ^ (min 63 64) = 9223372036854775808 from rfl]; omega
  have h2 : (a / 18446744073709551616 * 2 ^ (min 1 64) % 18446744073709551616) % 18446744073709551616 = 2 ^ 1 * (a / 18446744073709551616 % 9223372036854775808) := by
   rw [show 2 ^ (min 1 64) = 2 from rfl]; omega
  rw [h2, Nat.mod_eq_of_lt (show a % 18446744073709551616 / 2 ^ (min 63 64) < 18446744073709551616 by omega), ← Nat.two_pow_add_eq_or_of_lt h1, show 2 ^ (min 63 64) = 9223372036854775808 from rfl]
  omega
 simp only [e1]
 rw [show 2 ^ (min 63 64) = 9223372036854775808 from rfl, show 2 ^ (min 1 64) = 2 from rfl]
 simp only [Option.some.injEq, AV.tp.injEq, AV.ag.injEq, List.cons.injEq, AV.t.injEq, T.v.injEq, T.sl.injEq, Value.int.injEq, Value.bool.injEq, Value.string.injEq, decide_eq_decide, true_and, and_true]
 omega

theorem mul_parts (x0 x1 y0 y1 : Nat) : (x1 * 4294967296 + x0) * (y1 * 4294967296 + y0) = x1 * y1 * 18446744073709551616 + (x1 * y0 + x0 * y1) * 4294967296 + x0 * y0 := by
 have h : x1 * 4294967296 * (y1 * 4294967296) = x1 * y1 * 18446744073709551616 := by rw [Nat.mul_mul_mul_comm]
 have h2 : x1 * 4294967296 * y0 = x1 * y0 * 4294967296 := Nat.mul_right_comm _ _ _
 have h3 : x0 * (y1 * 4294967296) = x0 * y1 * 4294967296 := (Nat.mul_assoc _ _ _).symm
 rw [Nat.add_mul, Nat.mul_add, Nat.mul_add, h, h2, h3]
 omega

theorem and_32 (n : Nat) : (n % 18446744073709551616) &&& (4294967295 % 18446744073709551616) = n % 4294967296 := by
 rw [show 4294967295 % 18446744073709551616 = 2 ^ 32 - 1 from rfl, Nat.and_two_pow_sub_one_eq_mod]; omega

theorem f_bits_Mul64 (x y : Nat) (hx : x < 18446744073709551616) (hy : y < 18446744073709551616) : Meets Tryz.prog E0 n_bits_Mul64 [U x, U y] [] (.tp [U (x * y / 18446744073709551616 : Nat), U (x * y % 18446744073709551616 : Nat)]) [] := by
 refine st0 m_bits_Mul64 ?_
 simp only [go_sem, s_bits_Mul64, and_32]
 refine wE ?_
 simp only [go_sem, r_bits_Mul64]
 rw [show 2 ^ (min 32 64) = 4294967296 from rfl]
 simp only [Option.some.injEq, AV.tp.injEq, AV.ag.injEq, List.cons.injEq, AV.t.injEq, T.v.injEq, T.sl.injEq, Value.int.injEq, Value.bool.injEq, Value.string.injEq, decide_eq_decide, true_and, and_true]
 have hxy := mul_parts (x % 4294967296) (x / 4294967296) (y % 4294967296) (y / 4294967296)
 rw [Nat.div_add_mod' x, Nat.div_add_mod' y] at hxy
 rw [hxy]
 have b1 : x % 4294967296 ≤ 4294967295 := by omega
 have b2 : x / 4294967296 ≤ 4294967295 := by omega
 have b3 : y % 4294967296 ≤ 4294967295 := by omega
 have b4 : y / 4294967296 ≤ 4294967295 := by omega
 have p1 := Nat.mul_le_mul b1 b3
 have p2 := Nat.mul_le_mul b1 b4
 have p3 := Nat.mul_le_mul b2 b3
 have p4 := Nat.mul_le_mul b2 b4
 clear hxy
 generalize x % 4294967296 * (y % 4294967296) = a at *
 generalize x % 4294967296 * (y / 4294967296) = b at *
 generalize x / 4294967296 * (y % 4294967296) = c at *
 generalize x / 4294967296 * (y / 4294967296) = d at *
 omega

theorem f_wide_Mul (x y : Nat) (hx : x < 18446744073709551616) (hy : y < 18446744073709551616) : Meets Tryz.prog E0 n_wide_Mul [U x, U y] [] (WV (x * y)) [] := by
 refine st0 m_wide_Mul ?_
 simp only [go_sem, s_wide_Mul]
 refine Cl_plain (f_bits_Mul64 x y hx hy) ?_
 simp only [go_sem]
 refine wE ?_
 simp only [go_sem, r_wide_Mul]

theorem mul_bound {x y : Nat} (hx : x < 18446744073709551616) (hy : y ≤ 18446744073709551616) : x * y < 340282366920938463463374607431768211456 := by
 have h := Nat.mul_le_mul (show x ≤ 18446744073709551615 by omega) hy
 omega

theorem f_ref01_Mul (x y : Nat) (hx : x < 18446744073709551616) (hy : y < 18446744073709551616) : Meets Tryz.prog E0 n_ref01_Mul [U x, U y] [] (WV (x * y)) [] := by
 refine st0 m_ref01_Mul ?_
 simp only [go_sem, s_ref01_Mul]
 refine W_loop (fun s : Nat × Nat × Nat => 64 - s.1) (fun s => s.1 ≤ 64 ∧ s.2.1 = x * (y % 2 ^ s.1) ∧ s.2.2 = x * 2 ^ s.1)
  (fun s => [(0, U x), (1, U y), (4, .ptr 100 0), (5, .ptr 101 0), (6, .ptr 104 0), (7, I s.1)])
  (fun s => [(104, .box [U (s.2.2 / 18446744073709551616 : Nat), U (s.2.2 % 18446744073709551616 : Nat)]), (101, .box [U (s.2.1 / 18446744073709551616 : Nat), U (s.2.1 % 18446744073709551616 : Nat)]), (100, .box [U (0 : Nat), U (0 : Nat)])])
  (0, 0, x) (by simp [Nat.mod_one]) ?_ ?_
 ·refine subL [] [] (by simp [envS, go_sem, wkV, wkL, AV.ids, idsL, keysOf, ren]) ?_ (by simp [keysOf, ren]) (by simp) (by simp [keysOf]) (by simp [keysOf])
  simp [stoS, go_sem, wkV, wkL, wkO, AV.ids, Ob.ids, idsL, keysOf, ren, AV.one]
  omega
 ·rintro ⟨i, o, p⟩ ⟨hi, ho, hp⟩
  simp only at hi ho hp
  simp only [go_sem]
  refine W_split rfl (fun h => ?_) (fun h => ?_)
  ·simp at h
   have hmod : y % 2 ^ (i + 1) = y % 2 ^ i + 2 ^ i * (y / 2 ^ i % 2) := mod_next y i
   have e1 : IntKind.u64.wrap (i : Int) = (i : Int) := by rw [wrap_u64]; omega
   have ei : IntKind.i64.wrap ((i : Int) + 1) = ((i + 1 : Nat) : Int) := by rw [wrap_i64_of (by omega) (by omega)]; omega
   have h2i : 2 ^ (i + 1) ≤ 18446744073709551616 := Nat.le_trans (Nat.pow_le_pow_right (by decide) (show i + 1 ≤ 64 by omega)) (by decide)
   have hbo : x * (y % 2 ^ (i + 1)) < 340282366920938463463374607431768211456 := mul_bound hx (Nat.le_trans (Nat.le_of_lt (Nat.mod_lt _ (Nat.two_pow_pos _))) h2i)
   have hbp : x * 2 ^ (i + 1) < 340282366920938463463374607431768211456 := mul_bound hx h2i
   have hpow : x * 2 ^ (i + 1) = 2 * p := by rw [hp, Nat.pow_succ, ← Nat.mul_assoc, Nat.mul_comm]
   rw [hmod, Nat.mul_add, ← Nat.mul_assoc, ← hp, ← ho] at hbo
   rw [hpow] at hbp
   have hob : o < 340282366920938463463374607431768211456 := by omega
   simp only [go_sem, e1, and_one, Nat.min_eq_left (show i ≤ 64 by omega)]
   refine W_split rfl (fun h1 => ?_) (fun h1 => ?_)
   ·simp at h1
    rw [h1, Nat.mul_one] at hbo
    simp only [go_sem]
    refine Cl_plain (f_ref01_Add o p hob (by omega)) ?_
    simp only [go_sem]
    refine Cl_plain (f_ref01_Double p (by omega)) ?_
    simp only [go_sem, ei]
    refine rd_of (i + 1, o + p, 2 * p) (by simp only; omega) ⟨by simp only; omega, by simp only; rw [hmod, h1, Nat.mul_one, Nat.mul_add, ← hp, ← ho], by simp only; rw [hpow]⟩ ?_
    rw [Nat.mod_eq_of_lt hbo, Nat.mod_eq_of_lt hbp]
    exact sR0
   ·simp at h1
    simp only [go_sem]
    refine Cl_plain (f_ref01_Double p (by omega)) ?_
    simp only [go_sem, ei]
    refine rd_of (i + 1, o, 2 * p) (by simp only; omega) ⟨by simp only; omega, by simp only; rw [hmod, show y / 2 ^ i % 2 = 0 by omega, Nat.mul_zero, Nat.add_zero, ← ho], by simp only; rw [hpow]⟩ ?_
    rw [Nat.mod_eq_of_lt hbp]
    exact sR0
  ·simp at h
   simp only [go_sem]
   refine wE ?_
   simp only [go_sem, r_ref01_Mul]
   have e : i = 64 := by omega
   subst e
   rw [Nat.mod_eq_of_lt (show y < 2 ^ 64 from hy)] at ho
   rw [ho]

end Go.Proofs.YtgmpceijcdimkaaGreatDoor
namespace Go.Proofs.YtgmpceijcdimkaaGreatDoor
open Go Go.Sx

theorem or_bit {r b : Nat} (hb : b < 2) : (r * 2 ^ (min 1 64) % 18446744073709551616) % 18446744073709551616 ||| (b % 18446744073709551616) = 2 * r % 18446744073709551616 + b := by
 have h1 : b < 2 ^ 1 := hb
 have h2 : (r * 2 ^ (min 1 64) % 18446744073709551616) % 18446744073709551616 = 2 ^ 1 * (r % 9223372036854775808) := by
  rw [show 2 ^ (min 1 64) = 2 from rfl]; omega
 rw [h2, Nat.mod_eq_of_lt (show b < 18446744073709551616 by omega), ← Nat.two_pow_add_eq_or_of_lt h1]
 omega

theorem f_ref01_Div_z (a : Nat) : Meets Tryz.prog E0 n_ref01_Div [WV a, U (0 : Nat)] [] (.tp [WV 0, U (0 : Nat), I 1]) [] := by
 refine st0 m_ref01_Div ?_
 simp only [go_sem, s_ref01_Div]
 refine wE ?_
 simp only [go_sem, r_ref01_Div]

theorem div_step {a d j qq r : Nat} (hA : a / 2 ^ (j + 1) = qq * d + r) : a / 2 ^ j = 2 * (qq * d) + 2 * r + a / 2 ^ j % 2 := by
 have : a / 2 ^ (j + 1) = a / 2 ^ j / 2 := by rw [Nat.pow_succ, Nat.div_div_eq_div_mul]
 omega

theorem q_le {a d k qq r : Nat} (hd : 0 < d) (hA : a / 2 ^ k = qq * d + r) : qq * 2 ^ k ≤ a := by
 have h1 : qq ≤ a / 2 ^ k := by rw [hA]; exact Nat.le_trans (Nat.le_mul_of_pos_right qq hd) (Nat.le_add_right _ _)
 exact Nat.le_trans (Nat.mul_le_mul_right _ h1) (Nat.div_mul_le_self _ _)

theorem f_ref01_Div (a d : Nat) (ha : a < 340282366920938463463374607431768211456) (hd : d < 18446744073709551616) (h0 : 0 < d) : Meets Tryz.prog E0 n_ref01_Div [WV a, U d] [] (.tp [WV (a / d), U (a % d : Nat), I 0]) [] := by
 refine st0 m_ref01_Div ?_
 have hd0 : decide (d = 0) = false := by simp; omega
 simp only [go_sem, s_ref01_Div, hd0]
 refine W_loop (fun s : Nat × Nat × Nat => s.1) (fun s => s.1 ≤ 128 ∧ a / 2 ^ s.1 = s.2.1 * d + s.2.2 ∧ s.2.2 < d)
  (fun s => [(0, .undef), (1, U d), (2, .ptr 100 0), (4, .ptr 101 0), (5, U (0 : Nat)), (6, I 0), (7, .ptr 110 0), (8, U s.2.2), (9, I ((s.1 : Int) - 1))])
  (fun s => [(110, .box [U (s.2.1 * 2 ^ s.1 / 18446744073709551616 : Nat), U (s.2.1 * 2 ^ s.1 % 18446744073709551616 : Nat)]), (101, .box [U (0 : Nat), U (0 : Nat)]), (100, .box [U (a / 18446744073709551616 : Nat), U (a % 18446744073709551616 : Nat)])])
  (128, 0, 0) ⟨by decide, by simp only [Nat.zero_mul, Nat.zero_add]; exact Nat.div_eq_of_lt ha, h0⟩ ?_ ?_
 ·exact sR0
 ·rintro ⟨k, qq, r⟩ ⟨hk, hA, hr⟩
  simp only at hk hA hr
  simp only [go_sem]
  refine W_split rfl (fun h => ?_) (fun h => ?_)
  ·simp at h
   obtain ⟨j, rfl⟩ : ∃ j, k = j + 1 := ⟨k - 1, by omega⟩
   have e1 : ((j + 1 : Nat) : Int) - 1 = (j : Int) := by omega
   have e2 : IntKind.i64.wrap ((j : Int) - 1) = (j : Int) - 1 := wrap_i64_of (by omega) (by omega)
   have hb := bit_lt a j
   have hstep := div_step hA
   have hq := q_le h0 hA
   simp only [go_sem, e1]
   refine Cl_plain (f_ref01_bit a j (by omega)) ?_
   simp only [go_sem, or_bit hb]
   generalize a / 2 ^ j % 2 = b at *
   have hq0 : qq * 2 ^ (j + 1) / 2 ^ j % 2 = 0 := by
    rw [Nat.pow_succ, Nat.mul_comm (2 ^ j), ← Nat.mul_assoc, Nat.mul_div_cancel _ (Nat.two_pow_pos j)]; omega
   have hqn : qq * 2 ^ (j + 1) + 2 ^ j = (2 * qq + 1) * 2 ^ j := by
    rw [Nat.add_mul, Nat.one_mul, Nat.pow_succ, Nat.mul_comm (2 ^ j), ← Nat.mul_assoc, Nat.mul_comm 2 qq]
   have hqm : qq * 2 ^ (j + 1) = (2 * qq) * 2 ^ j := by
    rw [Nat.pow_succ, Nat.mul_comm (2 ^ j), ← Nat.mul_assoc, Nat.mul_comm 2 qq]
   have hm1 : (2 * qq + 1) * d = 2 * (qq * d) + d := by rw [Nat.add_mul, Nat.one_mul, Nat.mul_assoc]
   have hm2 : (2 * qq) * d = 2 * (qq * d) := by rw [Nat.mul_assoc]
   have h63 : r / 2 ^ (min 63 64) = r / 9223372036854775808 := by rw [show 2 ^ (min 63 64) = 9223372036854775808 from rfl]
   cases ht : decide (r / 9223372036854775808 = 1)
   ·simp at ht
    have ht' : decide (r / 9223372036854775808 = 1) = false := by simpa using ht
    simp only [go_sem, h63, ht']
    refine W_split rfl (fun h1 => ?_) (fun h1 => ?_)
    ·simp at h1
     simp only [go_sem]
     refine Cl_plain (f_ref01_with (qq * 2 ^ (j + 1)) j (by omega) (by omega) hq0) ?_
     simp only [go_sem, e1, e2]
     refine rd_of (j, 2 * qq + 1, 2 * r + b - d) (by simp only; omega) ⟨by simp only; omega, by simp only; rw [hm1]; omega, by simp only; omega⟩ ?_
     rw [hqn, show (2 * r % 18446744073709551616 + b + 18446744073709551616 - d % 18446744073709551616) % 18446744073709551616 = 2 * r + b - d by omega]
     exact sR0
    ·simp at h1
     simp only [go_sem, e1, e2]
     refine rd_of (j, 2 * qq, 2 * r + b) (by simp only; omega) ⟨by simp only; omega, by simp only; rw [hm2]; omega, by simp only; omega⟩ ?_
     rw [hqm, show 2 * r % 18446744073709551616 + b = 2 * r + b by omega]
     exact sR0
   ·simp at ht
    have ht' : decide (r / 9223372036854775808 = 1) = true := by simpa using ht
    simp only [go_sem, h63, ht']
    refine Cl_plain (f_ref01_with (qq * 2 ^ (j + 1)) j (by omega) (by omega) hq0) ?_
    simp only [go_sem, e1, e2]
    refine rd_of (j, 2 * qq + 1, 2 * r + b - d) (by simp only; omega) ⟨by simp only; omega, by simp only; rw [hm1]; omega, by simp only; omega⟩ ?_
    rw [hqn, show (2 * r % 18446744073709551616 + b + 18446744073709551616 - d % 18446744073709551616) % 18446744073709551616 = 2 * r + b - d by omega]
    exact sR0
  ·simp at h
   simp only [go_sem]
   refine wE ?_
   simp only [go_sem, r_ref01_Div]
   have e : k = 0 := by omega
   subst e
   simp only [Nat.pow_zero, Nat.div_one, Nat.mul_one] at hA ⊢
   have e1 : a / d = qq := by rw [hA, Nat.mul_comm, Nat.mul_add_div h0, Nat.div_eq_of_lt hr, Nat.add_zero]
   have e2 : a % d = r := by rw [hA, Nat.mul_comm, Nat.mul_add_mod, Nat.mod_eq_of_lt hr]
   rw [e1, e2]

end Go.Proofs.YtgmpceijcdimkaaGreatDoor
namespace Go.Proofs.YtgmpceijcdimkaaGreatDoor
open Go Go.Sx

/-- A quotient, to the nearest number. -/
def rnd (a d : Nat) : Nat := if d ≤ 2 * (a % d) then a / d + 1 else a / d
def roundV (a d : Nat) : Nat := if d = 0 then 0 else if 18446744073709551616 ≤ rnd a d then 0 else rnd a d
def roundE (a d : Nat) : Int := if d = 0 then 1 else if 18446744073709551616 ≤ rnd a d then 3 else 0

theorem f_ref01_Round (a d : Nat) (ha : a < 340282366920938463463374607431768211456) (hd : d < 18446744073709551616) : Meets Tryz.prog E0 n_ref01_Round [WV a, U d] [] (.tp [U (roundV a d), I (roundE a d)]) [] := by
 refine st0 m_ref01_Round ?_
 by_cases h0 : d = 0
 ·subst h0
  simp only [go_sem, s_ref01_Round]
  refine Cl_plain (f_ref01_Div_z a) ?_
  simp only [go_sem, show decide ((1 : Int) = 0) = false from rfl]
  refine wE ?_
  simp only [go_sem, r_ref01_Round]
  simp [roundV, roundE]
 ·have hr : a % d < d := Nat.mod_lt _ (by omega)
  have hq : a / d ≤ a := Nat.div_le_self _ _
  have hsub : (d + 18446744073709551616 - a % d % 18446744073709551616) % 18446744073709551616 = d - a % d := by omega
  have hz : decide ((0 : Int) = 0) = true := rfl
  simp only [go_sem, s_ref01_Round]
  refine Cl_plain (f_ref01_Div a d ha hd (by omega)) ?_
  simp only [go_sem, hz, hsub]
  refine W_split rfl (fun h => ?_) (fun h => ?_)
  ·simp at h
   have hr1 : rnd a d = a / d + 1 := if_pos (by omega)
   have hq2 : a / d + 1 < 340282366920938463463374607431768211456 := by
    have hd2 : 2 ≤ d := by omega
    have : a / d ≤ a / 2 := Nat.div_le_div_left hd2 (by decide)
    omega
   simp only [go_sem]
   refine Cl_plain (f_ref01_Add (a / d) 1 (by omega) (by omega)) ?_
   simp only [go_sem, Nat.mod_eq_of_lt hq2, ← hr1]
   refine W_split rfl (fun h1 => ?_) (fun h1 => ?_)
   ·simp at h1
    simp only [go_sem]
    refine wE ?_
    simp only [go_sem, r_ref01_Round]
    have h2 : 18446744073709551616 ≤ rnd a d := by omega
    simp [roundV, roundE, h0, h2]
   ·simp at h1
    simp only [go_sem]
    refine wE ?_
    simp only [go_sem, r_ref01_Round]
    have h2 : ¬ 18446744073709551616 ≤ rnd a d := by omega
    simp only [roundV, roundE, if_neg h0, if_neg h2]
    simp only [Option.some.injEq, AV.tp.injEq, AV.ag.injEq, List.cons.injEq, AV.t.injEq, T.v.injEq, T.sl.injEq, Value.int.injEq, Value.bool.injEq, Value.string.injEq, decide_eq_decide, true_and, and_true]
    omega
  ·simp at h
   have hr1 : rnd a d = a / d := if_neg (by omega)
   simp only [go_sem, ← hr1]
   refine W_split rfl (fun h1 => ?_) (fun h1 => ?_)
   ·simp at h1
    simp only [go_sem]
    refine wE ?_
    simp only [go_sem, r_ref01_Round]
    have h2 : 18446744073709551616 ≤ rnd a d := by omega
    simp [roundV, roundE, h0, h2]
   ·simp at h1
    simp only [go_sem]
    refine wE ?_
    simp only [go_sem, r_ref01_Round]
    have h2 : ¬ 18446744073709551616 ≤ rnd a d := by omega
    simp only [roundV, roundE, if_neg h0, if_neg h2]
    simp only [Option.some.injEq, AV.tp.injEq, AV.ag.injEq, List.cons.injEq, AV.t.injEq, T.v.injEq, T.sl.injEq, Value.int.injEq, Value.bool.injEq, Value.string.injEq, decide_eq_decide, true_and, and_true]
    omega

end Go.Proofs.YtgmpceijcdimkaaGreatDoor
namespace Go.Proofs.YtgmpceijcdimkaaGreatDoor
open Go Go.Sx

/-- L is the number of bits of x. -/
def Bits (x L : Nat) : Prop := x < 2 ^ L ∧ (L = 0 ∨ 2 ^ (L - 1) ≤ x)

theorem bits_unique {x L M : Nat} (h : Bits x L) (k : Bits x M) : L = M := by
 have key : ∀ {L M : Nat}, Bits x L → Bits x M → L ≤ M := by
  intro L M h k
  rcases h.2 with h2 | h2
  ·omega
  ·have h3 : 2 ^ (L - 1) < 2 ^ M := Nat.lt_of_le_of_lt h2 k.1
   have := (Nat.pow_lt_pow_iff_right (show 1 < 2 by decide)).1 h3
   omega
 exact Nat.le_antisymm (key h k) (key k h)

theorem bits_shift {x n k : Nat} (h : Bits (x / 2 ^ n) k) (hk : 0 < k) : Bits x (n + k) := by
 refine ⟨?_, Or.inr ?_⟩
 ·have := (Nat.div_lt_iff_lt_mul (Nat.two_pow_pos n)).1 h.1
  rwa [Nat.pow_add, Nat.mul_comm]
 ·have h2 := h.2.resolve_left (by omega)
  have := (Nat.le_div_iff_mul_le (Nat.two_pow_pos n)).1 h2
  rwa [← Nat.pow_add, show k - 1 + n = n + k - 1 by omega] at this

def bl8 (y : Nat) : Nat := if y < 1 then 0 else if y < 2 then 1 else if y < 4 then 2 else if y < 8 then 3 else if y < 16 then 4 else if y < 32 then 5 else if y < 64 then 6 else if y < 128 then 7 else 8

theorem bl8_bits {y : Nat} (h : y < 256) : Bits y (bl8 y) ∧ bl8 y ≤ 8 ∧ (0 < y → 0 < bl8 y) := by
 unfold bl8 Bits
 repeat' split
 all_goals (simp; try omega)

theorem tab_get : ∀ y, y < 256 → ∃ b, k_bits_Len64_0[y]? = some b ∧ b.toNat = bl8 y := by
 have h : ∀ y, y < 256 → (k_bits_Len64_0[y]?).map (fun b => b.toNat) = some (bl8 y) := by decide +kernel
 intro y hy
 have := h y hy
 cases hb : k_bits_Len64_0[y]? with
 | none => rw [hb] at this; cases this
 | some b => rw [hb] at this; exact ⟨b, rfl, Option.some.inj this⟩

theorem bits_end {x L n : Nat} (hL : Bits x L) (hy : x / 2 ^ n < 256) (h0 : n = 0 ∨ 0 < x / 2 ^ n) : n + bl8 (x / 2 ^ n) = L := by
 obtain ⟨h1, h2, h3⟩ := bl8_bits hy
 rcases h0 with rfl | h0
 ·simp only [Nat.pow_zero, Nat.div_one, Nat.zero_add] at h1 ⊢
  exact bits_unique h1 hL
 ·exact bits_unique (bits_shift h1 (h3 h0)) hL

set_option maxRecDepth 20000 in
theorem f_bits_Len64 (x L : Nat) (hx : x < 18446744073709551616) (hL : Bits x L) : Meets Tryz.prog E0 n_bits_Len64 [U x] [] (I L) [] := by
 refine st0 m_bits_Len64 ?_
 have p32 : 2 ^ (min 32 64) = 4294967296 := rfl
 have p16 : 2 ^ (min 16 64) = 65536 := rfl
 have p8 : 2 ^ (min 8 64) = 256 := rfl
 have q1 : IntKind.i64.wrap (0 + 16) = 16 := rfl
 have q2 : IntKind.i64.wrap (32 + 16) = 48 := rfl
 have q3 : IntKind.i64.wrap (0 + 8) = 8 := rfl
 have q4 : IntKind.i64.wrap (16 + 8) = 24 := rfl
 have q5 : IntKind.i64.wrap (32 + 8) = 40 := rfl
 have q6 : IntKind.i64.wrap (48 + 8) = 56 := rfl
 simp only [go_sem, s_bits_Len64, p32]
 refine W_split rfl (fun h1 => ?_) (fun h1 => ?_)
 ·simp at h1
  simp only [go_sem, p32, p16, p8, q1, q2, q3, q4, q5, q6]
  refine W_split rfl (fun h2 => ?_) (fun h2 => ?_)
  ·simp at h2
   simp only [go_sem, p32, p16, p8, q1, q2, q3, q4, q5, q6]
   refine W_split rfl (fun h3 => ?_) (fun h3 => ?_)
   ·simp at h3
    have hy : x / 2 ^ 56 < 256 := by omega
    have hxy : x / 4294967296 / 65536 / 256 = x / 2 ^ 56 := by omega
    obtain ⟨b, hb, hbn⟩ := tab_get _ hy
    have e1 : IntKind.u8.wrap ((x / 2 ^ 56 : Nat) : Int) = ((x / 2 ^ 56 : Nat) : Int) := by rw [wrap_u8]; omega
    have e2 : IntKind.i64.wrap ((bl8 (x / 2 ^ 56) : Nat) : Int) = ((bl8 (x / 2 ^ 56) : Nat) : Int) := by
     have := (bl8_bits hy).2.1
     rw [wrap_i64_of (by omega) (by omega)]
    have e3 := bits_end (n := 56) hL hy (by omega)
    simp only [go_sem, p32, p16, p8, q1, q2, q3, q4, q5, q6, hxy, e1, hb, hbn, e2, Int.toNat_natCast, Int.natCast_nonneg]
    refine wE ?_
    simp only [go_sem, r_bits_Len64]
    have := (bl8_bits hy).2.1
    rw [wrap_i64_of (by omega) (by omega)]
    simp only [Option.some.injEq, AV.tp.injEq, AV.ag.injEq, List.cons.injEq, AV.t.injEq, T.v.injEq, T.sl.injEq, Value.int.injEq, Value.bool.injEq, Value.string.injEq, decide_eq_decide, true_and, and_true]
    omega
   ·simp at h3
    have hy : x / 2 ^ 48 < 256 := by omega
    have hxy : x / 4294967296 / 65536 = x / 2 ^ 48 := by omega
    obtain ⟨b, hb, hbn⟩ := tab_get _ hy
    have e1 : IntKind.u8.wrap ((x / 2 ^ 48 : Nat) : Int) = ((x / 2 ^ 48 : Nat) : Int) := by rw [wrap_u8]; omega
    have e2 : IntKind.i64.wrap ((bl8 (x / 2 ^ 48) : Nat) : Int) = ((bl8 (x / 2 ^ 48) : Nat) : Int) := by
     have := (bl8_bits hy).2.1
     rw [wrap_i64_of (by omega) (by omega)]
    have e3 := bits_end (n := 48) hL hy (by omega)
    simp only [go_sem, p32, p16, p8, q1, q2, q3, q4, q5, q6, hxy, e1, hb, hbn, e2, Int.toNat_natCast, Int.natCast_nonneg]
    refine wE ?_
    simp only [go_sem, r_bits_Len64]
    have := (bl8_bits hy).2.1
    rw [wrap_i64_of (by omega) (by omega)]
    simp only [Option.some.injEq, AV.tp.injEq, AV.ag.injEq, List.cons.injEq, AV.t.injEq, T.v.injEq, T.sl.injEq, Value.int.injEq, Value.bool.injEq, Value.string.injEq, decide_eq_decide, true_and, and_true]
    omega
  ·simp at h2
   simp only [go_sem, p32, p16, p8, q1, q2, q3, q4, q5, q6]
   refine W_split rfl (fun h3 => ?_) (fun h3 => ?_)
   ·simp at h3
    have hy : x / 2 ^ 40 < 256 := by omega
    have hxy : x / 4294967296 / 256 = x / 2 ^ 40 := by omega
    obtain ⟨b, hb, hbn⟩ := tab_get _ hy
    have e1 : IntKind.u8.wrap ((x / 2 ^ 40 : Nat) : Int) = ((x / 2 ^ 40 : Nat) : Int) := by rw [wrap_u8]; omega
    have e2 : IntKind.i64.wrap ((bl8 (x / 2 ^ 40) : Nat) : Int) = ((bl8 (x / 2 ^ 40) : Nat) : Int) := by
     have := (bl8_bits hy).2.1
     rw [wrap_i64_of (by omega) (by omega)]
    have e3 := bits_end (n := 40) hL hy (by omega)
    simp only [go_sem, p32, p16, p8, q1, q2, q3, q4, q5, q6, hxy, e1, hb, hbn, e2, Int.toNat_natCast, Int.natCast_nonneg]
    refine wE ?_
    simp only [go_sem, r_bits_Len64]
    have := (bl8_bits hy).2.1
    rw [wrap_i64_of (by omega) (by omega)]
    simp only [Option.some.injEq, AV.tp.injEq, AV.ag.injEq, List.cons.injEq, AV.t.injEq, T.v.injEq, T.sl.injEq, Value.int.injEq, Value.bool.injEq, Value.string.injEq, decide_eq_decide, true_and, and_true]
    omega
   ·simp at h3
    have hy : x / 2 ^ 32 < 256 := by omega
    have hxy : x / 4294967296 = x / 2 ^ 32 := by omega
    obtain ⟨b, hb, hbn⟩ := tab_get _ hy
    have e1 : IntKind.u8.wrap ((x / 2 ^ 32 : Nat) : Int) = ((x / 2 ^ 32 : Nat) : Int) := by rw [wrap_u8]; omega
    have e2 : IntKind.i64.wrap ((bl8 (x / 2 ^ 32) : Nat) : Int) = ((bl8 (x / 2 ^ 32) : Nat) : Int) := by
     have := (bl8_bits hy).2.1
     rw [wrap_i64_of (by omega) (by omega)]
    have e3 := bits_end (n := 32) hL hy (by omega)
    simp only [go_sem, p32, p16, p8, q1, q2, q3, q4, q5, q6, hxy, e1, hb, hbn, e2, Int.toNat_natCast, Int.natCast_nonneg]
    refine wE ?_
    simp only [go_sem, r_bits_Len64]
    have := (bl8_bits hy).2.1
    rw [wrap_i64_of (by omega) (by omega)]
    simp only [Option.some.injEq, AV.tp.injEq, AV.ag.injEq, List.cons.injEq, AV.t.injEq, T.v.injEq, T.sl.injEq, Value.int.injEq, Value.bool.injEq, Value.string.injEq, decide_eq_decide, true_and, and_true]
    omega
 ·simp at h1
  simp only [go_sem, p32, p16, p8, q1, q2, q3, q4, q5, q6]
  refine W_split rfl (fun h2 => ?_) (fun h2 => ?_)
  ·simp at h2
   simp only [go_sem, p32, p16, p8, q1, q2, q3, q4, q5, q6]
   refine W_split rfl (fun h3 => ?_) (fun h3 => ?_)
   ·simp at h3
    have hy : x / 2 ^ 24 < 256 := by omega
    have hxy : x / 65536 / 256 = x / 2 ^ 24 := by omega
    obtain ⟨b, hb, hbn⟩ := tab_get _ hy
    have e1 : IntKind.u8.wrap ((x / 2 ^ 24 : Nat) : Int) = ((x / 2 ^ 24 : Nat) : Int) := by rw [wrap_u8]; omega
    have e2 : IntKind.i64.wrap ((bl8 (x / 2 ^ 24) : Nat) : Int) = ((bl8 (x / 2 ^ 24) : Nat) : Int) := by
     have := (bl8_bits hy).2.1
     rw [wrap_i64_of (by omega) (by omega)]
    have e3 := bits_end (n := 24) hL hy (by omega)
    simp only [go_sem, p32, p16, p8, q1, q2, q3, q4, q5, q6, hxy, e1, hb, hbn, e2, Int.toNat_natCast, Int.natCast_nonneg]
    refine wE ?_
    simp only [go_sem, r_bits_Len64]
    have := (bl8_bits hy).2.1
    rw [wrap_i64_of (by omega) (by omega)]
    simp only [Option.some.injEq, AV.tp.injEq, AV.ag.injEq, List.cons.injEq, AV.t.injEq, T.v.injEq, T.sl.injEq, Value.int.injEq, Value.bool.injEq, Value.string.injEq, decide_eq_decide, true_and, and_true]
    omega
   ·simp at h3
    have hy : x / 2 ^ 16 < 256 := by omega
    have hxy : x / 65536 = x / 2 ^ 16 := by omega
    obtain ⟨b, hb, hbn⟩ := tab_get _ hy
    have e1 : IntKind.u8.wrap ((x / 2 ^ 16 : Nat) : Int) = ((x / 2 ^ 16 : Nat) : Int) := by rw [wrap_u8]; omega
    have e2 : IntKind.i64.wrap ((bl8 (x / 2 ^ 16) : Nat) : Int) = ((bl8 (x / 2 ^ 16) : Nat) : Int) := by
     have := (bl8_bits hy).2.1
     rw [wrap_i64_of (by omega) (by omega)]
    have e3 := bits_end (n := 16) hL hy (by omega)
    simp only [go_sem, p32, p16, p8, q1, q2, q3, q4, q5, q6, hxy, e1, hb, hbn, e2, Int.toNat_natCast, Int.natCast_nonneg]
    refine wE ?_
    simp only [go_sem, r_bits_Len64]
    have := (bl8_bits hy).2.1
    rw [wrap_i64_of (by omega) (by omega)]
    simp only [Option.some.injEq, AV.tp.injEq, AV.ag.injEq, List.cons.injEq, AV.t.injEq, T.v.injEq, T.sl.injEq, Value.int.injEq, Value.bool.injEq, Value.string.injEq, decide_eq_decide, true_and, and_true]
    omega
  ·simp at h2
   simp only [go_sem, p32, p16, p8, q1, q2, q3, q4, q5, q6]
   refine W_split rfl (fun h3 => ?_) (fun h3 => ?_)
   ·simp at h3
    have hy : x / 2 ^ 8 < 256 := by omega
    have hxy : x / 256 = x / 2 ^ 8 := by omega
    obtain ⟨b, hb, hbn⟩ := tab_get _ hy
    have e1 : IntKind.u8.wrap ((x / 2 ^ 8 : Nat) : Int) = ((x / 2 ^ 8 : Nat) : Int) := by rw [wrap_u8]; omega
    have e2 : IntKind.i64.wrap ((bl8 (x / 2 ^ 8) : Nat) : Int) = ((bl8 (x / 2 ^ 8) : Nat) : Int) := by
     have := (bl8_bits hy).2.1
     rw [wrap_i64_of (by omega) (by omega)]
    have e3 := bits_end (n := 8) hL hy (by omega)
    simp only [go_sem, p32, p16, p8, q1, q2, q3, q4, q5, q6, hxy, e1, hb, hbn, e2, Int.toNat_natCast, Int.natCast_nonneg]
    refine wE ?_
    simp only [go_sem, r_bits_Len64]
    have := (bl8_bits hy).2.1
    rw [wrap_i64_of (by omega) (by omega)]
    simp only [Option.some.injEq, AV.tp.injEq, AV.ag.injEq, List.cons.injEq, AV.t.injEq, T.v.injEq, T.sl.injEq, Value.int.injEq, Value.bool.injEq, Value.string.injEq, decide_eq_decide, true_and, and_true]
    omega
   ·simp at h3
    have hy : x < 256 := by omega
    have hxy : (x : Nat) = x := rfl
    obtain ⟨b, hb, hbn⟩ := tab_get _ hy
    have e1 : IntKind.u8.wrap ((x : Nat) : Int) = ((x : Nat) : Int) := by rw [wrap_u8]; omega
    have e2 : IntKind.i64.wrap ((bl8 (x) : Nat) : Int) = ((bl8 (x) : Nat) : Int) := by
     have := (bl8_bits hy).2.1
     rw [wrap_i64_of (by omega) (by omega)]
    have e3 : bl8 x = L := bits_unique (bl8_bits hy).1 hL
    simp only [go_sem, p32, p16, p8, q1, q2, q3, q4, q5, q6, hxy, e1, hb, hbn, e2, Int.toNat_natCast, Int.natCast_nonneg]
    refine wE ?_
    simp only [go_sem, r_bits_Len64]
    have := (bl8_bits hy).2.1
    rw [wrap_i64_of (by omega) (by omega)]
    simp only [Option.some.injEq, AV.tp.injEq, AV.ag.injEq, List.cons.injEq, AV.t.injEq, T.v.injEq, T.sl.injEq, Value.int.injEq, Value.bool.injEq, Value.string.injEq, decide_eq_decide, true_and, and_true]
    omega

theorem f_bits_LeadingZeros64 (x L : Nat) (hx : x < 18446744073709551616) (hL : Bits x L) (h64 : L ≤ 64) : Meets Tryz.prog E0 n_bits_LeadingZeros64 [U x] [] (I (64 - L : Nat)) [] := by
 refine st0 m_bits_LeadingZeros64 ?_
 simp only [go_sem, s_bits_LeadingZeros64]
 refine Cl_plain (f_bits_Len64 x L hx hL) ?_
 simp only [go_sem]
 refine wE ?_
 simp only [go_sem, r_bits_LeadingZeros64]
 rw [wrap_i64_of (by omega) (by omega)]
 simp only [Option.some.injEq, AV.tp.injEq, AV.ag.injEq, List.cons.injEq, AV.t.injEq, T.v.injEq, T.sl.injEq, Value.int.injEq, Value.bool.injEq, Value.string.injEq, decide_eq_decide, true_and, and_true]
 omega

end Go.Proofs.YtgmpceijcdimkaaGreatDoor
namespace Go.Proofs.YtgmpceijcdimkaaGreatDoor
open Go Go.Sx

theorem bits_le {x L m : Nat} (h : Bits x L) : L ≤ m ↔ x < 2 ^ m := by
 constructor
 ·intro hl
  exact Nat.lt_of_lt_of_le h.1 (Nat.pow_le_pow_right (by decide) hl)
 ·intro hx
  rcases h.2 with h2 | h2
  ·omega
  ·have := (Nat.pow_lt_pow_iff_right (show 1 < 2 by decide)).1 (Nat.lt_of_le_of_lt h2 hx)
   omega

theorem bits_exists (x : Nat) : ∃ L, Bits x L := by
 by_cases h : x = 0
 ·exact ⟨0, by subst h; simp [Bits]⟩
 ·exact ⟨x.log2 + 1, Nat.lt_log2_self, Or.inr (by simpa using Nat.log2_self_le h)⟩

theorem shl_or {h t n : Nat} (hn : n ≤ 64) (ht : t < 2 ^ n) : (h * 2 ^ n % 18446744073709551616) % 18446744073709551616 ||| t % 18446744073709551616 = h * 2 ^ n % 18446744073709551616 + t := by
 have hPQ : 2 ^ n * 2 ^ (64 - n) = 18446744073709551616 := by rw [← Nat.pow_add, show n + (64 - n) = 64 by omega]
 have hle : 2 ^ n ≤ 18446744073709551616 := by rw [← hPQ]; exact Nat.le_mul_of_pos_right _ (Nat.two_pow_pos _)
 rw [Nat.mod_mod, Nat.mod_eq_of_lt (show t < 18446744073709551616 by omega), ← hPQ, Nat.mul_comm h, Nat.mul_mod_mul_left, ← Nat.two_pow_add_eq_or_of_lt ht]

end Go.Proofs.YtgmpceijcdimkaaGreatDoor
namespace Go.Proofs.YtgmpceijcdimkaaGreatDoor
open Go Go.Sx

/-- A guess at a digit: not below the true one. -/
structure Guess (u u1 y1 y0 q r : Nat) : Prop where
 e : u = q * y1 + r
 r : r < 4294967296
 up : (u * 4294967296 + u1) / (y1 * 4294967296 + y0) ≤ q
 le : q ≤ 4294967297

section
variable {u u1 y1 y0 q r : Nat}

theorem guess_eq (e : u = q * y1 + r) : u * 4294967296 + u1 + q * y0 = q * (y1 * 4294967296 + y0) + (4294967296 * r + u1) := by
 rw [e, Nat.add_mul, Nat.mul_add, Nat.mul_assoc]; omega

theorem digit_lt (hu : u < y1 * 4294967296 + y0) (h1 : u1 < 4294967296) : (u * 4294967296 + u1) / (y1 * 4294967296 + y0) < 4294967296 := by
 rw [Nat.div_lt_iff_lt_mul (by omega)]
 omega

theorem guess_first (hu : u < y1 * 4294967296 + y0) (h1 : u1 < 4294967296) (hy0 : y0 < 4294967296) (hy1 : y1 < 4294967296) (hn : 4294967296 ≤ 2 * y1) : Guess u u1 y1 y0 (u / y1) (u % y1) where
 e := (Nat.div_add_mod' u y1).symm
 r := Nat.lt_trans (Nat.mod_lt _ (by omega)) hy1
 up := by
  apply Decidable.byContradiction
  intro hc
  have hQ : (u / y1 + 1) * (y1 * 4294967296 + y0) ≤ u * 4294967296 + u1 := (Nat.le_div_iff_mul_le (by omega)).1 (by omega)
  have h2 := Nat.lt_div_mul_add (a := u) (show 0 < y1 by omega)
  rw [Nat.add_mul, Nat.mul_add, ← Nat.mul_assoc, Nat.one_mul] at hQ
  have h3 : 0 ≤ u / y1 * y0 := Nat.zero_le _
  omega
 le := by
  have : u / y1 < 4294967298 := by
   rw [Nat.div_lt_iff_lt_mul (by omega)]
   omega
  omega

theorem guess_next (hu : u < y1 * 4294967296 + y0) (h1 : u1 < 4294967296) (g : Guess u u1 y1 y0 q r) (h : 4294967296 ≤ q ∨ 4294967296 * r + u1 < q * y0) : (u * 4294967296 + u1) / (y1 * 4294967296 + y0) ≤ q - 1 ∧ 0 < q ∧ u = (q - 1) * y1 + (r + y1) := by
 have hd := digit_lt hu h1
 have hup := g.up
 have hlt : (u * 4294967296 + u1) / (y1 * 4294967296 + y0) < q := by
  rcases h with h | h
  ·omega
  ·rw [Nat.div_lt_iff_lt_mul (by omega)]
   have := guess_eq (u1 := u1) (y0 := y0) g.e
   omega
 clear hup hd
 have hq : 0 < q := by
  rcases Nat.eq_zero_or_pos q with rfl | h'
  ·exact absurd hlt (Nat.not_lt_zero _)
  ·exact h'
 refine ⟨Nat.le_sub_one_of_lt hlt, hq, ?_⟩
 clear hlt
 obtain ⟨k, rfl⟩ : ∃ k, q = k + 1 := ⟨q - 1, by omega⟩
 have := g.e
 rw [Nat.add_mul, Nat.one_mul] at this
 simp only [Nat.add_sub_cancel]
 omega

theorem guess_done (hy : 0 < y1 * 4294967296 + y0) (g : Guess u u1 y1 y0 q r) (h : q * y0 ≤ 4294967296 * r + u1) : q = (u * 4294967296 + u1) / (y1 * 4294967296 + y0) := by
 refine Nat.le_antisymm ?_ g.up
 rw [Nat.le_div_iff_mul_le hy]
 have := guess_eq (u1 := u1) (y0 := y0) g.e
 omega

theorem guess_broke (hy : 0 < y1 * 4294967296 + y0) (hy0 : y0 < 4294967296) (e : u = q * y1 + r) (hup : (u * 4294967296 + u1) / (y1 * 4294967296 + y0) ≤ q) (hq : q ≤ 4294967296) (hr : 4294967296 ≤ r) : q = (u * 4294967296 + u1) / (y1 * 4294967296 + y0) := by
 refine Nat.le_antisymm ?_ hup
 rw [Nat.le_div_iff_mul_le hy]
 have h1 := guess_eq (u1 := u1) (y0 := y0) e
 have h2 := Nat.mul_le_mul hq (Nat.le_of_lt hy0)
 omega
end

/-- The two digits together. -/
theorem two_digits {n un0 Y : Nat} (hY : 0 < Y) : (n * 4294967296 + un0) / Y = n / Y * 4294967296 + (n % Y * 4294967296 + un0) / Y ∧
  (n * 4294967296 + un0) % Y = (n % Y * 4294967296 + un0) % Y := by
 have e : n * 4294967296 + un0 = Y * (n / Y * 4294967296) + (n % Y * 4294967296 + un0) := by
  have := Nat.div_add_mod n Y
  rw [← Nat.mul_assoc, ← Nat.add_assoc, ← Nat.add_mul, this]
 rw [e, Nat.mul_add_div hY, Nat.mul_add_mod]
 exact ⟨rfl, rfl⟩

end Go.Proofs.YtgmpceijcdimkaaGreatDoor
namespace Go.Proofs.YtgmpceijcdimkaaGreatDoor
open Go Go.Sx

theorem div_end (Y s u0 Q1 n Q0 a b : Nat) (x1 x2 x3 x4 x5 x6 x7 x8 x9 x10 x11 x12 x13 x14 x15 x16 x17 : AV) (ea : (Q1 * 4294967296 % 18446744073709551616 + Q0) % 18446744073709551616 = a)
  (eb : ((n * 4294967296 % 18446744073709551616 + u0) % 18446744073709551616 + 18446744073709551616 - Q0 * Y % 18446744073709551616 % 18446744073709551616) % 18446744073709551616 / 2 ^ (min s 64) = b) :
  W Tryz.prog E0 (keysOf []) (SEnds (keysOf []) r_bits_Div64 (.tp [U a, U b]) []) s_bits_Div64_t2 []
   [(0, x1), (1, x2), (2, U Y), (6, x3), (7, x4), (8, U s), (9, x5), (10, x6), (11, x7), (12, x8), (13, x9), (14, U u0), (15, U Q1), (16, x10), (17, U n), (18, U Q0), (20, x11), (24, x12), (27, x13), (78, x14), (85, x15), (113, x16), (120, x17)] [] := by
 simp only [go_sem, s_bits_Div64_t2, ea, eb]
 refine wE ?_
 simp only [go_sem, r_bits_Div64]

theorem div_low (Y s y1 y0 u u1 u0 Q1 a b : Nat) (x1 x2 x3 x4 x8 x10 x11 x12 x13 x14 x15 x16 x17 x18 x19 : AV) (hY : Y = y1 * 4294967296 + y0) (hYM : Y < 18446744073709551616) (hy1 : y1 < 4294967296) (hy0 : y0 < 4294967296) (hn : 4294967296 ≤ 2 * y1) (hu0 : u0 < 4294967296)
  (hQ1 : Q1 < 4294967296) (n : Nat) (en : ((u * 4294967296 % 18446744073709551616 + u1) % 18446744073709551616 + 18446744073709551616 - Q1 * Y % 18446744073709551616 % 18446744073709551616) % 18446744073709551616 = n) (hnY : n < Y)
  (ea : Q1 * 4294967296 + (n * 4294967296 + u0) / Y = a) (eb : (n * 4294967296 + u0) % Y / 2 ^ (min s 64) = b) :
  W Tryz.prog E0 (keysOf []) (SEnds (keysOf []) r_bits_Div64 (.tp [U a, U b]) []) s_bits_Div64_t3 []
   [(0, x1), (1, x2), (2, U Y), (6, x3), (7, x4), (8, U s), (9, U y1), (10, U y0), (11, U u), (12, x8), (13, U u1), (14, U u0), (15, U Q1), (16, x10), (17, x18), (18, x19), (20, x11), (24, x12), (27, x13), (78, x14), (85, x15), (113, x16), (120, x17)] [] := by
 have hz : ¬ y1 = 0 := by omega
 have hd : n / y1 % 18446744073709551616 = n / y1 := Nat.mod_eq_of_lt (Nat.lt_of_le_of_lt (Nat.div_le_self _ _) (by omega))
 have hr : (n + 18446744073709551616 - n / y1 * y1 % 18446744073709551616 % 18446744073709551616) % 18446744073709551616 = n % y1 := by
  have := Nat.div_add_mod' n y1
  generalize n / y1 * y1 = m at *
  generalize n % y1 = r at *
  omega
 have hnY' : n < y1 * 4294967296 + y0 := by omega
 have hg := guess_first (u := n) (u1 := u0) hnY' hu0 hy0 hy1 hn
 have hdig := digit_lt hnY' hu0
 have hYp : 0 < y1 * 4294967296 + y0 := by omega
 -- the end, whatever the loop leaves
 have fin : ∀ q : Nat, q = (n * 4294967296 + u0) / (y1 * 4294967296 + y0) → (Q1 * 4294967296 % 18446744073709551616 + q) % 18446744073709551616 = a ∧ ((n * 4294967296 % 18446744073709551616 + u0) % 18446744073709551616 + 18446744073709551616 - q * Y % 18446744073709551616 % 18446744073709551616) % 18446744073709551616 / 2 ^ (min s 64) = b := by
  intro q hq
  rw [← hY] at hq hdig
  rw [← hq] at ea hdig
  refine ⟨by omega, ?_⟩
  rw [← eb]
  apply congrArg (· / 2 ^ (min s 64))
  have h1 := Nat.div_add_mod' (n * 4294967296 + u0) Y
  have h2 : (n * 4294967296 + u0) % Y < Y := Nat.mod_lt _ (by omega)
  rw [← hq] at h1
  obtain ⟨m, hm⟩ : ∃ m, (n * 4294967296 + u0) % Y = m := ⟨_, rfl⟩
  obtain ⟨w, hw⟩ : ∃ w, q * Y = w := ⟨_, rfl⟩
  rw [hm] at h1 h2 ⊢
  rw [hw] at h1 ⊢
  clear hdig hd hr hg ea eb en hq
  omega
 simp only [go_sem, s_bits_Div64_t3, en, u64_quo hz, hd, hr]
 refine W_loop (fun x : Nat × Nat => x.1) (fun x => Guess n u0 y1 y0 x.1 x.2)
  (fun x => [(2, U Y), (8, U s), (9, U y1), (10, U y0), (14, U u0), (15, U Q1), (16, U x.2), (17, U n), (18, U x.1)])
  (fun x => []) (n / y1, n % y1) hg sR0 ?_
 rintro ⟨q, r⟩ g
 simp only at g
 have gr := g.r
 have gl := g.le
 have e0 : 0 < q → (q + 18446744073709551616 - 1 % 18446744073709551616) % 18446744073709551616 = q - 1 := by omega
 have e2 : (r + y1) % 18446744073709551616 = r + y1 := by omega
 cases hq : decide (4294967296 ≤ q)
 ·have hq' : q < 4294967296 := by simpa using hq
  have e3 : q * y0 % 18446744073709551616 = q * y0 := by
   have := Nat.mul_le_mul (show q ≤ 4294967295 by omega) (show y0 ≤ 4294967295 by omega)
   exact Nat.mod_eq_of_lt (by omega)
  have e4 : (4294967296 * r % 18446744073709551616 + u0) % 18446744073709551616 = 4294967296 * r + u0 := by omega
  simp only [go_sem, s_bits_Div64_b1, hq, e3, e4]
  refine W_split rfl (fun h => ?_) (fun h => ?_)
  ·have hnext := guess_next hnY' hu0 g (Or.inr (by simpa using h))
   have e1 := e0 hnext.2.1
   simp only [go_sem, e1, e2]
   refine W_split rfl (fun h5 => ?_) (fun h5 => ?_)
   ·simp only [go_sem]
    have hb := guess_broke hYp hy0 hnext.2.2 hnext.1 (by omega) (by simpa using h5)
    exact div_end _ _ _ _ _ _ _ _ _ _ _ _ _ _ _ _ _ _ _ _ _ _ _ _ _ (fin _ hb).1 (fin _ hb).2
   ·simp only [go_sem]
    refine rd_of (q - 1, r + y1) (by simp only; omega) ⟨hnext.2.2, by simpa using h5, hnext.1, by simp only; omega⟩ sR0
  ·simp only [go_sem]
   have hb := guess_done hYp g (by simpa using h)
   exact div_end _ _ _ _ _ _ _ _ _ _ _ _ _ _ _ _ _ _ _ _ _ _ _ _ _ (fin _ hb).1 (fin _ hb).2
 ·have hnext := guess_next hnY' hu0 g (Or.inl (by simpa using hq))
  have e1 := e0 hnext.2.1
  simp only [go_sem, s_bits_Div64_b1, hq, e1, e2]
  refine W_split rfl (fun h5 => ?_) (fun h5 => ?_)
  ·simp only [go_sem]
   have hb := guess_broke hYp hy0 hnext.2.2 hnext.1 (by omega) (by simpa using h5)
   exact div_end _ _ _ _ _ _ _ _ _ _ _ _ _ _ _ _ _ _ _ _ _ _ _ _ _ (fin _ hb).1 (fin _ hb).2
  ·simp only [go_sem]
   refine rd_of (q - 1, r + y1) (by simp only; omega) ⟨hnext.2.2, by simpa using h5, hnext.1, by simp only; omega⟩ sR0

theorem f_bits_Div64_z (lo y : Nat) (hlo : lo < 18446744073709551616) (hy : y < 18446744073709551616) (h0 : 0 < y) : Meets Tryz.prog E0 n_bits_Div64 [U (0 : Nat), U lo, U y] [] (.tp [U (lo / y : Nat), U (lo % y : Nat)]) [] := by
 refine st0 m_bits_Div64 ?_
 have hz : ¬ y = 0 := by omega
 have h1 : decide (y = 0) = false := by simpa using hz
 have h2 : decide (y ≤ 0) = false := by simpa using hz
 have h3 : decide ((0 : Nat) = 0) = true := rfl
 have hd : lo / y % 18446744073709551616 = lo / y := Nat.mod_eq_of_lt (Nat.lt_of_le_of_lt (Nat.div_le_self _ _) hlo)
 simp only [go_sem, s_bits_Div64, h1, h2, h3, u64_quo hz, u64_rem hz, hd]
 refine wE ?_
 simp only [go_sem, r_bits_Div64]

theorem f_bits_Div64 (hi lo y : Nat) (hlo : lo < 18446744073709551616) (hy : y < 18446744073709551616) (hhi : hi < y) : Meets Tryz.prog E0 n_bits_Div64 [U hi, U lo, U y] [] (.tp [U ((hi * 18446744073709551616 + lo) / y : Nat), U ((hi * 18446744073709551616 + lo) % y : Nat)]) [] := by
 by_cases h0 : hi = 0
 ·subst h0
  rw [Nat.zero_mul, Nat.zero_add]
  exact f_bits_Div64_z lo y hlo hy (by omega)
 refine st0 m_bits_Div64 ?_
 have h1 : decide (y = 0) = false := by simp; omega
 have h2 : decide (y ≤ hi) = false := by simp; omega
 have h3 : decide (hi = 0) = false := by simpa using h0
 obtain ⟨L, hL⟩ := bits_exists y
 have hL64 : L ≤ 64 := (bits_le hL).2 hy
 obtain ⟨s, hs⟩ : ∃ s, s = 64 - L := ⟨_, rfl⟩
 have es : IntKind.u64.wrap ((64 - L : Nat) : Int) = (s : Int) := by rw [wrap_u64]; omega
 have hL0 : L ≠ 0 := by
  intro e; subst e
  have := hL.1
  simp at this
  omega
 have hPQ : 2 ^ s * 2 ^ (64 - s) = 18446744073709551616 := by rw [← Nat.pow_add, show s + (64 - s) = 64 by omega]
 have hp := Nat.two_pow_pos s
 -- the divisor, pushed up
 obtain ⟨Y, hYd⟩ : ∃ Y, Y = y * 2 ^ s := ⟨_, rfl⟩
 have hYM : Y < 18446744073709551616 := by
  have := (Nat.mul_lt_mul_right (a0 := hp)).2 hL.1
  rw [← Nat.pow_add, show L + s = 64 by omega] at this
  rw [hYd]; exact this
 have hYn : 9223372036854775808 ≤ Y := by
  have := Nat.mul_le_mul_right (2 ^ s) (hL.2.resolve_left hL0)
  rw [← Nat.pow_add, show L - 1 + s = 63 by omega] at this
  rw [hYd]; exact this
 have E1 : y * 2 ^ (min s 64) % 18446744073709551616 = Y := by rw [Nat.min_eq_left (by omega), ← hYd]; exact Nat.mod_eq_of_lt hYM
 obtain ⟨y1, hy1d⟩ : ∃ y1, Y / 4294967296 = y1 := ⟨_, rfl⟩
 obtain ⟨y0, hy0d⟩ : ∃ y0, Y % 4294967296 = y0 := ⟨_, rfl⟩
 have hY : Y = y1 * 4294967296 + y0 := by omega
 have hy1 : y1 < 4294967296 := by omega
 have hy0 : y0 < 4294967296 := by omega
 have hn : 4294967296 ≤ 2 * y1 := by omega
 have E2 : (64 + 18446744073709551616 - s % 18446744073709551616) % 18446744073709551616 = 64 - s := by omega
 -- the dividend, pushed up
 have ht : lo / 2 ^ (64 - s) < 2 ^ s := by rw [Nat.div_lt_iff_lt_mul (Nat.two_pow_pos _), hPQ]; exact hlo
 obtain ⟨u, hu⟩ : ∃ u, u = hi * 2 ^ s + lo / 2 ^ (64 - s) := ⟨_, rfl⟩
 have huY : u < Y := by
  have := Nat.mul_le_mul_right (2 ^ s) (show hi + 1 ≤ y by omega)
  rw [Nat.add_mul, Nat.one_mul, ← hYd] at this
  omega
 have hhs : hi * 2 ^ s < 18446744073709551616 := by
  have := Nat.le_add_right (hi * 2 ^ s) (lo / 2 ^ (64 - s))
  rw [← hu] at this
  omega
 have E3 : hi * 2 ^ (min s 64) % 18446744073709551616 % 18446744073709551616 ||| lo / 2 ^ (min (64 - s) 64) % 18446744073709551616 = u := by
  rw [Nat.min_eq_left (show s ≤ 64 by omega), Nat.min_eq_left (show 64 - s ≤ 64 by omega), shl_or (by omega) ht, Nat.mod_eq_of_lt hhs, ← hu]
 obtain ⟨v, hv⟩ : ∃ v, v = lo * 2 ^ s % 18446744073709551616 := ⟨_, rfl⟩
 have E4 : lo * 2 ^ (min s 64) % 18446744073709551616 = v := by rw [Nat.min_eq_left (by omega), ← hv]
 have hvM : v < 18446744073709551616 := by rw [hv]; exact Nat.mod_lt _ (by decide)
 obtain ⟨u1, hu1d⟩ : ∃ u1, v / 4294967296 = u1 := ⟨_, rfl⟩
 obtain ⟨u0, hu0d⟩ : ∃ u0, v % 4294967296 = u0 := ⟨_, rfl⟩
 have hu1 : u1 < 4294967296 := by omega
 have hu0 : u0 < 4294967296 := by omega
 have hN : (hi * 18446744073709551616 + lo) * 2 ^ s = (u * 4294967296 + u1) * 4294967296 + u0 := by
  have hl : lo * 2 ^ s = lo / 2 ^ (64 - s) * 18446744073709551616 + v := by
   have := Nat.div_add_mod' (lo * 2 ^ s) 18446744073709551616
   have hdv : ∀ l : Nat, l * 2 ^ s / 18446744073709551616 = l / 2 ^ (64 - s) := by
    intro l
    rw [← hPQ, Nat.mul_comm l, Nat.mul_div_mul_left _ _ hp]
   rw [← hv, hdv] at this
   exact this.symm
  rw [Nat.add_mul, hl, Nat.mul_right_comm]
  generalize hi * 2 ^ s = w at *
  generalize lo / 2 ^ (64 - s) = t at *
  omega
 -- the numbers of the first digit
 have hz : ¬ y1 = 0 := by omega
 have hd : u / y1 % 18446744073709551616 = u / y1 := Nat.mod_eq_of_lt (Nat.lt_of_le_of_lt (Nat.div_le_self _ _) (by omega))
 have hr : (u + 18446744073709551616 - u / y1 * y1 % 18446744073709551616 % 18446744073709551616) % 18446744073709551616 = u % y1 := by
  have := Nat.div_add_mod' u y1
  generalize u / y1 * y1 = m at *
  generalize u % y1 = r at *
  omega
 have huY' : u < y1 * 4294967296 + y0 := by omega
 have hg := guess_first (u := u) (u1 := u1) huY' hu1 hy0 hy1 hn
 have hdig := digit_lt huY' hu1
 have hYp : 0 < y1 * 4294967296 + y0 := by omega
 have p32 : 2 ^ (min 32 64) = 4294967296 := rfl
 -- what is behind the first loop
 have tail : ∀ (q : Nat) (x1 x2 x3 x4 x8 x10 x11 x12 x13 x14 x15 x16 x17 x18 x19 : AV), q = (u * 4294967296 + u1) / (y1 * 4294967296 + y0) →
   W Tryz.prog E0 (keysOf []) (SEnds (keysOf []) r_bits_Div64 (.tp [U ((hi * 18446744073709551616 + lo) / y : Nat), U ((hi * 18446744073709551616 + lo) % y : Nat)]) []) s_bits_Div64_t3 []
   [(0, x1), (1, x2), (2, U Y), (6, x3), (7, x4), (8, U s), (9, U y1), (10, U y0), (11, U u), (12, x8), (13, U u1), (14, U u0), (15, U q), (16, x10), (17, x18), (18, x19), (20, x11), (24, x12), (27, x13), (78, x14), (85, x15), (113, x16), (120, x17)] [] := by
  intro q x1 x2 x3 x4 x8 x10 x11 x12 x13 x14 x15 x16 x17 x18 x19 hq
  rw [← hY] at hq hdig
  rw [← hq] at hdig
  obtain ⟨n, hnd⟩ : ∃ n, (u * 4294967296 + u1) % Y = n := ⟨_, rfl⟩
  have hnY : n < Y := by rw [← hnd]; exact Nat.mod_lt _ (by omega)
  have htwo := two_digits (n := u * 4294967296 + u1) (un0 := u0) (show 0 < Y by omega)
  rw [← hq, hnd, ← hN] at htwo
  have hen : ((u * 4294967296 % 18446744073709551616 + u1) % 18446744073709551616 + 18446744073709551616 - q * Y % 18446744073709551616 % 18446744073709551616) % 18446744073709551616 = n := by
   have h7 := Nat.div_add_mod' (u * 4294967296 + u1) Y
   rw [← hq, hnd] at h7
   obtain ⟨w, hw⟩ : ∃ w, q * Y = w := ⟨_, rfl⟩
   rw [hw] at h7 ⊢
   clear htwo hdig hg hd hr hN hq hnd hw
   omega
  refine div_low Y s y1 y0 u u1 u0 q _ _ _ _ _ _ _ _ _ _ _ _ _ _ _ _ _ hY hYM hy1 hy0 hn hu0 hdig n hen hnY ?_ ?_
  ·rw [← htwo.1, hYd, Nat.mul_div_mul_right _ _ hp]
  ·rw [← htwo.2, hYd, Nat.mul_mod_mul_right, Nat.min_eq_left (by omega), Nat.mul_div_cancel _ hp]
 simp only [go_sem, s_bits_Div64, h1, h2, h3]
 refine Cl_plain (f_bits_LeadingZeros64 y L hy hL hL64) ?_
 simp only [go_sem, es, E1, E2, E3, E4, p32, and_32, hy1d, hy0d, hu1d, hu0d, u64_quo hz, hd, hr]
 refine W_loop (fun x : Nat × Nat => x.1) (fun x => Guess u u1 y1 y0 x.1 x.2)
  (fun x => [(2, U Y), (8, U s), (9, U y1), (10, U y0), (11, U u), (13, U u1), (14, U u0), (15, U x.1), (16, U x.2)])
  (fun x => []) (u / y1, u % y1) hg sR0 ?_
 rintro ⟨q, r⟩ g
 simp only at g
 have gr := g.r
 have gl := g.le
 have e0 : 0 < q → (q + 18446744073709551616 - 1 % 18446744073709551616) % 18446744073709551616 = q - 1 := by omega
 have e2 : (r + y1) % 18446744073709551616 = r + y1 := by omega
 cases hq : decide (4294967296 ≤ q)
 ·have hq' : q < 4294967296 := by simpa using hq
  have e3 : q * y0 % 18446744073709551616 = q * y0 := by
   have := Nat.mul_le_mul (show q ≤ 4294967295 by omega) (show y0 ≤ 4294967295 by omega)
   exact Nat.mod_eq_of_lt (by omega)
  have e4 : (4294967296 * r % 18446744073709551616 + u1) % 18446744073709551616 = 4294967296 * r + u1 := by omega
  simp only [go_sem, s_bits_Div64_b0, hq, e3, e4]
  refine W_split rfl (fun h => ?_) (fun h => ?_)
  ·have hnext := guess_next huY' hu1 g (Or.inr (by simpa using h))
   have e1 := e0 hnext.2.1
   simp only [go_sem, e1, e2]
   refine W_split rfl (fun h5 => ?_) (fun h5 => ?_)
   ·simp only [go_sem]
    have hb := guess_broke hYp hy0 hnext.2.2 hnext.1 (by omega) (by simpa using h5)
    exact tail _ _ _ _ _ _ _ _ _ _ _ _ _ _ _ _ hb
   ·simp only [go_sem]
    refine rd_of (q - 1, r + y1) (by simp only; omega) ⟨hnext.2.2, by simpa using h5, hnext.1, by simp only; omega⟩ sR0
  ·simp only [go_sem]
   have hb := guess_done hYp g (by simpa using h)
   exact tail _ _ _ _ _ _ _ _ _ _ _ _ _ _ _ _ hb
 ·have hnext := guess_next huY' hu1 g (Or.inl (by simpa using hq))
  have e1 := e0 hnext.2.1
  simp only [go_sem, s_bits_Div64_b0, hq, e1, e2]
  refine W_split rfl (fun h5 => ?_) (fun h5 => ?_)
  ·simp only [go_sem]
   have hb := guess_broke hYp hy0 hnext.2.2 hnext.1 (by omega) (by simpa using h5)
   exact tail _ _ _ _ _ _ _ _ _ _ _ _ _ _ _ _ hb
  ·simp only [go_sem]
   refine rd_of (q - 1, r + y1) (by simp only; omega) ⟨hnext.2.2, by simpa using h5, hnext.1, by simp only; omega⟩ sR0

end Go.Proofs.YtgmpceijcdimkaaGreatDoor
namespace Go.Proofs.YtgmpceijcdimkaaGreatDoor
open Go Go.Sx

theorem f_wide_Div_z (a : Nat) : Meets Tryz.prog E0 n_wide_Div [WV a, U (0 : Nat)] [] (.tp [WV 0, U (0 : Nat), I 1]) [] := by
 refine st0 m_wide_Div ?_
 simp only [go_sem, s_wide_Div]
 refine wE ?_
 simp only [go_sem, r_wide_Div]

theorem f_wide_Div (a d : Nat) (ha : a < 340282366920938463463374607431768211456) (hd : d < 18446744073709551616) (h0 : 0 < d) : Meets Tryz.prog E0 n_wide_Div [WV a, U d] [] (.tp [WV (a / d), U (a % d : Nat), I 0]) [] := by
 refine st0 m_wide_Div ?_
 have hz : ¬ d = 0 := by omega
 have hd0 : decide (d = 0) = false := by simp; omega
 have hq : a / 18446744073709551616 / d % 18446744073709551616 = a / 18446744073709551616 / d := Nat.mod_eq_of_lt (Nat.lt_of_le_of_lt (Nat.div_le_self _ _) (by omega))
 have hl : a / 18446744073709551616 % d < d := Nat.mod_lt _ h0
 simp only [go_sem, s_wide_Div, hd0, u64_quo hz, u64_rem hz, hq]
 refine Cl_plain (f_bits_Div64 (a / 18446744073709551616 % d) (a % 18446744073709551616) d (by omega) hd hl) ?_
 simp only [go_sem]
 refine wE ?_
 simp only [go_sem, r_wide_Div]
 have e : a = d * (a / 18446744073709551616 / d * 18446744073709551616) + (a / 18446744073709551616 % d * 18446744073709551616 + a % 18446744073709551616) := by
  have h1 := Nat.div_add_mod a 18446744073709551616
  have h2 := Nat.div_add_mod (a / 18446744073709551616) d
  rw [← Nat.mul_assoc, ← Nat.add_assoc, ← Nat.add_mul, h2]
  omega
 have hb : (a / 18446744073709551616 % d * 18446744073709551616 + a % 18446744073709551616) / d < 18446744073709551616 := by
  rw [Nat.div_lt_iff_lt_mul h0]
  have := Nat.mul_le_mul_right 18446744073709551616 (show a / 18446744073709551616 % d + 1 ≤ d by omega)
  omega
 have e1 : a / d = a / 18446744073709551616 / d * 18446744073709551616 + (a / 18446744073709551616 % d * 18446744073709551616 + a % 18446744073709551616) / d := by
  conv => lhs; rw [e]
  rw [Nat.mul_add_div h0]
 have e2 : a % d = (a / 18446744073709551616 % d * 18446744073709551616 + a % 18446744073709551616) % d := by
  conv => lhs; rw [e]
  rw [Nat.mul_add_mod]
 rw [← e2, e1]
 generalize (a / 18446744073709551616 % d * 18446744073709551616 + a % 18446744073709551616) / d = x at *
 generalize a / 18446744073709551616 / d = z at *
 simp only [Option.some.injEq, AV.tp.injEq, AV.ag.injEq, List.cons.injEq, AV.t.injEq, T.v.injEq, T.sl.injEq, Value.int.injEq, Value.bool.injEq, Value.string.injEq, decide_eq_decide, true_and, and_true]
 omega

theorem f_wide_Round (a d : Nat) (ha : a < 340282366920938463463374607431768211456) (hd : d < 18446744073709551616) : Meets Tryz.prog E0 n_wide_Round [WV a, U d] [] (.tp [U (roundV a d), I (roundE a d)]) [] := by
 refine st0 m_wide_Round ?_
 by_cases h0 : d = 0
 ·subst h0
  simp only [go_sem, s_wide_Round]
  refine Cl_plain (f_wide_Div_z a) ?_
  simp only [go_sem, show decide ((1 : Int) = 0) = false from rfl]
  refine wE ?_
  simp only [go_sem, r_wide_Round]
  simp [roundV, roundE]
 ·have hr : a % d < d := Nat.mod_lt _ (by omega)
  have hq : a / d ≤ a := Nat.div_le_self _ _
  have hsub : (d + 18446744073709551616 - a % d % 18446744073709551616) % 18446744073709551616 = d - a % d := by omega
  have hz : decide ((0 : Int) = 0) = true := rfl
  simp only [go_sem, s_wide_Round]
  refine Cl_plain (f_wide_Div a d ha hd (by omega)) ?_
  simp only [go_sem, hz, hsub]
  refine W_split rfl (fun h => ?_) (fun h => ?_)
  ·simp at h
   have hr1 : rnd a d = a / d + 1 := if_pos (by omega)
   have hq2 : a / d + 1 < 340282366920938463463374607431768211456 := by
    have hd2 : 2 ≤ d := by omega
    have : a / d ≤ a / 2 := Nat.div_le_div_left hd2 (by decide)
    omega
   simp only [go_sem]
   refine Cl_plain (f_wide_Add (a / d) 1 (by omega) (by omega)) ?_
   simp only [go_sem, Nat.mod_eq_of_lt hq2, ← hr1]
   refine W_split rfl (fun h1 => ?_) (fun h1 => ?_)
   ·simp at h1
    simp only [go_sem]
    refine wE ?_
    simp only [go_sem, r_wide_Round]
    have h2 : 18446744073709551616 ≤ rnd a d := by omega
    simp [roundV, roundE, h0, h2]
   ·simp at h1
    simp only [go_sem]
    refine wE ?_
    simp only [go_sem, r_wide_Round]
    have h2 : ¬ 18446744073709551616 ≤ rnd a d := by omega
    simp only [roundV, roundE, if_neg h0, if_neg h2]
    simp only [Option.some.injEq, AV.tp.injEq, AV.ag.injEq, List.cons.injEq, AV.t.injEq, T.v.injEq, T.sl.injEq, Value.int.injEq, Value.bool.injEq, Value.string.injEq, decide_eq_decide, true_and, and_true]
    omega
  ·simp at h
   have hr1 : rnd a d = a / d := if_neg (by omega)
   simp only [go_sem, ← hr1]
   refine W_split rfl (fun h1 => ?_) (fun h1 => ?_)
   ·simp at h1
    simp only [go_sem]
    refine wE ?_
    simp only [go_sem, r_wide_Round]
    have h2 : 18446744073709551616 ≤ rnd a d := by omega
    simp [roundV, roundE, h0, h2]
   ·simp at h1
    simp only [go_sem]
    refine wE ?_
    simp only [go_sem, r_wide_Round]
    have h2 : ¬ 18446744073709551616 ≤ rnd a d := by omega
    simp only [roundV, roundE, if_neg h0, if_neg h2]
    simp only [Option.some.injEq, AV.tp.injEq, AV.ag.injEq, List.cons.injEq, AV.t.injEq, T.v.injEq, T.sl.injEq, Value.int.injEq, Value.bool.injEq, Value.string.injEq, decide_eq_decide, true_and, and_true]
    omega

end Go.Proofs.YtgmpceijcdimkaaGreatDoor
namespace Go.Proofs.YtgmpceijcdimkaaGreatDoor
open Go Go.Sx

/-- A number, or nothing. -/
abbrev NV (x : Bool) (v : Int) : AV := .ag [Bo x, I v]

/-- A number that is right, or nothing. -/
abbrev NO (o : Option Int) : AV := .ag [Bo o.isNone, I (o.getD 0)]

/-- What counts of a number. -/
def valM (x : Bool) (v : Int) : Option Int := if x = false ∧ -9223372036854775808 < v then some v else none

/-- What can be told. -/
def tellM (z : Int) : Option Int := if -9223372036854775808 < z ∧ z < 9223372036854775808 then some z else none

/-- A size with a sign. -/
def sgnM (n : Nat) (b : Bool) : Option Int := if n < 9223372036854775808 then some (if b then -(n : Int) else n) else none

def okN (x : Bool) (v : Int) : Bool := !x && decide (-9223372036854775808 < v)

theorem okN_t {x : Bool} {v : Int} (h : okN x v = true) : valM x v = some v ∧ x = false ∧ -9223372036854775808 < v := by
 simp [okN] at h; exact ⟨by simp [valM, h], h.1, h.2⟩

theorem okN_f {x : Bool} {v : Int} (h : okN x v = false) : valM x v = none := by
 simp only [okN, Bool.and_eq_false_iff, Bool.not_eq_false', decide_eq_false_iff_not] at h
 unfold valM
 rcases h with h | h
 ·simp [h]
 ·rw [if_neg (fun h2 => h h2.2)]

theorem tell_range {y z : Int} (h : tellM y = some z) : -9223372036854775808 < z ∧ z < 9223372036854775808 := by
 simp only [tellM] at h
 split at h
 ·injection h with h; omega
 ·cases h

theorem sgn_range {n : Nat} {b : Bool} {z : Int} (h : sgnM n b = some z) : -9223372036854775808 < z ∧ z < 9223372036854775808 := by
 simp only [sgnM] at h
 split at h
 ·injection h with h; subst h; split <;> omega
 ·cases h

/-- A number that came of a reckoning. -/
def Rt (o : Option Int) : Prop := ∀ z, o = some z → -9223372036854775808 < z ∧ z < 9223372036854775808

theorem Rt.lo {o : Option Int} (h : Rt o) : -9223372036854775808 ≤ o.getD 0 := by
 cases o with
 | none => simp
 | some z => have := (h z rfl).1; simp only [Option.getD_some]; omega
theorem Rt.hi {o : Option Int} (h : Rt o) : o.getD 0 < 9223372036854775808 := by
 cases o with
 | none => simp
 | some z => have := (h z rfl).2; simp only [Option.getD_some]; omega
theorem Rt.val {o : Option Int} (h : Rt o) : valM o.isNone (o.getD 0) = o := by
 cases o with
 | none => rfl
 | some z => have := (h z rfl).1; simp [valM, this]

theorem val_in {v : Int} (h : -9223372036854775808 < v) : valM false v = some v := by simp [valM, h]
theorem val_out {x : Bool} {v : Int} (h : v ≤ -9223372036854775808) : valM x v = none := by
 unfold valM; rw [if_neg (fun h2 => by have := h2.2; omega)]
theorem tell_in {z : Int} (h1 : -9223372036854775808 < z) (h2 : z < 9223372036854775808) : tellM z = some z := if_pos ⟨h1, h2⟩
theorem tell_out {z : Int} (h : z ≤ -9223372036854775808 ∨ 9223372036854775808 ≤ z) : tellM z = none := if_neg (by omega)
theorem sgn_pos {n : Nat} (h : n < 9223372036854775808) : sgnM n false = some (n : Int) := if_pos h
theorem sgn_neg {n : Nat} (h : n < 9223372036854775808) : sgnM n true = some (-(n : Int)) := if_pos h
theorem sgn_out {n : Nat} {b : Bool} (h : 9223372036854775808 ≤ n) : sgnM n b = none := if_neg (by omega)
theorem sgn_tell {n : Nat} {b : Bool} {z : Int} (h : z = if b then -(n : Int) else n) : sgnM n b = tellM z := by
 subst h
 by_cases hn : n < 9223372036854775808
 ·cases b
  ·rw [sgn_pos hn, if_neg (by decide), tell_in (by omega) (by omega)]
  ·rw [sgn_neg hn, if_pos rfl, tell_in (by omega) (by omega)]
 ·rw [sgn_out (by omega)]
  cases b
  ·rw [if_neg (by decide), tell_out (by omega)]
  ·rw [if_pos rfl, tell_out (by omega)]

def addM (a b : Option Int) : Option Int := match a, b with
 | some x, some y => tellM (x + y)
 | _, _ => none
/-- Two sizes' product, divided by a third one, and rounded, with a sign. -/
def quoM (x y d : Nat) (b : Bool) : Option Int := if d = 0 then none else sgnM (rnd (x * y) d) b
def neg (x : Int) : Bool := decide (x < 0)
def divM (a b : Option Int) : Option Int := match a, b with
 | some x, some y => quoM x.natAbs 1000000 y.natAbs (neg x != neg y)
 | _, _ => none
def cmpM (a b : Option Int) : Int := match a, b with
 | some x, some y => if x < y then -1 else if y < x then 1 else 0
 | some _, none => 1
 | none, some _ => -1
 | none, none => 0
def lessM (a b : Option Int) : Option Int := match a, b with
 | some x, some y => if x ≤ y then some x else some y
 | some x, none => some x
 | none, y => y
def moreM (a b : Option Int) : Option Int := match a, b with
 | some x, some y => if y ≤ x then some x else some y
 | some x, none => some x
 | none, y => y

end Go.Proofs.YtgmpceijcdimkaaGreatDoor
namespace Go.Proofs.YtgmpceijcdimkaaGreatDoor
open Go Go.Sx

theorem f_fixed_nothing : Meets Tryz.prog E0 n_fixed_nothing [] [] (NO none) [] := by
 refine st0 m_fixed_nothing ?_
 simp only [go_sem, s_fixed_nothing]
 all_goals
  refine wE ?_
  simp only [go_sem, r_fixed_nothing]
  rfl

theorem f_fixed_Right (x : Bool) (v : Int) (h1 : -9223372036854775808 ≤ v) : Meets Tryz.prog E0 n_fixed_Right [NV x v] [] (Bo (if x then decide (v = 0) else decide (-9223372036854775808 < v))) [] := by
 refine st0 m_fixed_Right ?_
 cases x
 all_goals
  repeat' (first | (simp only [go_sem, s_fixed_Right, *]) | (simp (disch := omega) only [s_fixed_Right, wrap_i64_of, i64_quo, i64_rem, sdiv, smod]) | ((with_reducible refine W_split (by with_unfolding_all exact rfl) (fun hsp => ?_) (fun hsp => ?_)) <;> (try simp only [Bool.not_true, Bool.not_false, decide_eq_true_eq, decide_eq_false_iff_not, Bool.not_eq_true', Bool.not_eq_false', not_false_eq_true] at hsp)) | ((with_reducible refine R_split (by with_unfolding_all exact rfl) (fun hsp => ?_) (fun hsp => ?_)) <;> (try simp only [Bool.not_true, Bool.not_false, decide_eq_true_eq, decide_eq_false_iff_not, Bool.not_eq_true', Bool.not_eq_false', not_false_eq_true] at hsp)) | (with_reducible refine rF ?_))
  refine wE ?_
  simp only [go_sem, r_fixed_Right]
  try (simp only [Option.some.injEq, AV.tp.injEq, AV.ag.injEq, List.cons.injEq, AV.t.injEq, T.v.injEq, T.sl.injEq, Value.int.injEq, Value.bool.injEq, Value.string.injEq, decide_eq_decide, true_and, and_true]; omega)

theorem f_fixed_there (x : Bool) (v : Int) : Meets Tryz.prog E0 n_fixed_there [NV x v] [] (Bo (okN x v)) [] := by
 refine st0 m_fixed_there ?_
 unfold okN
 cases x
 all_goals
  repeat' (first | (simp only [go_sem, s_fixed_there, *]) | (simp (disch := omega) only [s_fixed_there, wrap_i64_of, i64_quo, i64_rem, sdiv, smod]) | ((with_reducible refine W_split (by with_unfolding_all exact rfl) (fun hsp => ?_) (fun hsp => ?_)) <;> (try simp only [Bool.not_true, Bool.not_false, decide_eq_true_eq, decide_eq_false_iff_not, Bool.not_eq_true', Bool.not_eq_false', not_false_eq_true] at hsp)) | ((with_reducible refine R_split (by with_unfolding_all exact rfl) (fun hsp => ?_) (fun hsp => ?_)) <;> (try simp only [Bool.not_true, Bool.not_false, decide_eq_true_eq, decide_eq_false_iff_not, Bool.not_eq_true', Bool.not_eq_false', not_false_eq_true] at hsp)) | (with_reducible refine rF ?_))
  refine wE ?_
  simp only [go_sem, r_fixed_there]
  try (simp only [Option.some.injEq, AV.tp.injEq, AV.ag.injEq, List.cons.injEq, AV.t.injEq, T.v.injEq, T.sl.injEq, Value.int.injEq, Value.bool.injEq, Value.string.injEq, decide_eq_decide, true_and, and_true]; omega)

theorem f_fixed_size (x : Bool) (v : Int) (h1 : -9223372036854775808 ≤ v) (h2 : v < 9223372036854775808) : Meets Tryz.prog E0 n_fixed_size [NV x v] [] (.tp [U ((v.natAbs : Nat) : Int), Bo (neg v)]) [] := by
 refine st0 m_fixed_size ?_
 by_cases h : v < 0
 ·have e1 : IntKind.u64.wrap (IntKind.i64.wrap (0 - v)) = ((v.natAbs : Nat) : Int) := by rw [wrap_i64, wrap_u64]; split <;> omega
  have e3 : neg v = true := by simp [neg, h]
  repeat' (first | (simp only [go_sem, s_fixed_size, e1, *]) | (simp (disch := omega) only [s_fixed_size, e1, wrap_i64_of, i64_quo, i64_rem, sdiv, smod]) | ((with_reducible refine W_split (by with_unfolding_all exact rfl) (fun hsp => ?_) (fun hsp => ?_)) <;> (try simp only [Bool.not_true, Bool.not_false, decide_eq_true_eq, decide_eq_false_iff_not, Bool.not_eq_true', Bool.not_eq_false', not_false_eq_true] at hsp)) | ((with_reducible refine R_split (by with_unfolding_all exact rfl) (fun hsp => ?_) (fun hsp => ?_)) <;> (try simp only [Bool.not_true, Bool.not_false, decide_eq_true_eq, decide_eq_false_iff_not, Bool.not_eq_true', Bool.not_eq_false', not_false_eq_true] at hsp)) | (with_reducible refine rF ?_))
  refine wE ?_
  simp only [go_sem, r_fixed_size, e1, e3]
 ·have e2 : IntKind.u64.wrap v = ((v.natAbs : Nat) : Int) := by rw [wrap_u64]; omega
  have e3 : neg v = false := by simp [neg, h]
  repeat' (first | (simp only [go_sem, s_fixed_size, e2, *]) | (simp (disch := omega) only [s_fixed_size, e2, wrap_i64_of, i64_quo, i64_rem, sdiv, smod]) | ((with_reducible refine W_split (by with_unfolding_all exact rfl) (fun hsp => ?_) (fun hsp => ?_)) <;> (try simp only [Bool.not_true, Bool.not_false, decide_eq_true_eq, decide_eq_false_iff_not, Bool.not_eq_true', Bool.not_eq_false', not_false_eq_true] at hsp)) | ((with_reducible refine R_split (by with_unfolding_all exact rfl) (fun hsp => ?_) (fun hsp => ?_)) <;> (try simp only [Bool.not_true, Bool.not_false, decide_eq_true_eq, decide_eq_false_iff_not, Bool.not_eq_true', Bool.not_eq_false', not_false_eq_true] at hsp)) | (with_reducible refine rF ?_))
  refine wE ?_
  simp only [go_sem, r_fixed_size, e2, e3]

theorem f_fixed_told (n : Nat) (b : Bool) (h : n < 18446744073709551616) : Meets Tryz.prog E0 n_fixed_told [U n, Bo b] [] (NO (sgnM n b)) [] := by
 refine st0 m_fixed_told ?_
 by_cases hn : n < 9223372036854775808
 ·have e0 : decide (9223372036854775807 < n) = false := decide_eq_false (by omega)
  have f1 : IntKind.i64.wrap (n : Int) = n := wrap_i64_of (by omega) (by omega)
  have f2 : IntKind.i64.wrap (0 - (n : Int)) = -n := by rw [wrap_i64_of (by omega) (by omega)]; omega
  cases b
  ·rw [sgn_pos hn]
   repeat' (first | (simp only [go_sem, s_fixed_told, *]) | (simp (disch := omega) only [s_fixed_told, wrap_i64_of, i64_quo, i64_rem, sdiv, smod]) | ((with_reducible refine W_split (by with_unfolding_all exact rfl) (fun hsp => ?_) (fun hsp => ?_)) <;> (try simp only [Bool.not_true, Bool.not_false, decide_eq_true_eq, decide_eq_false_iff_not, Bool.not_eq_true', Bool.not_eq_false', not_false_eq_true] at hsp)) | ((with_reducible refine R_split (by with_unfolding_all exact rfl) (fun hsp => ?_) (fun hsp => ?_)) <;> (try simp only [Bool.not_true, Bool.not_false, decide_eq_true_eq, decide_eq_false_iff_not, Bool.not_eq_true', Bool.not_eq_false', not_false_eq_true] at hsp)) | (with_reducible refine rF ?_))
   all_goals
    refine wE ?_
    simp only [go_sem, r_fixed_told]
    rfl
  ·rw [sgn_neg hn]
   repeat' (first | (simp only [go_sem, s_fixed_told, *]) | (simp (disch := omega) only [s_fixed_told, wrap_i64_of, i64_quo, i64_rem, sdiv, smod]) | ((with_reducible refine W_split (by with_unfolding_all exact rfl) (fun hsp => ?_) (fun hsp => ?_)) <;> (try simp only [Bool.not_true, Bool.not_false, decide_eq_true_eq, decide_eq_false_iff_not, Bool.not_eq_true', Bool.not_eq_false', not_false_eq_true] at hsp)) | ((with_reducible refine R_split (by with_unfolding_all exact rfl) (fun hsp => ?_) (fun hsp => ?_)) <;> (try simp only [Bool.not_true, Bool.not_false, decide_eq_true_eq, decide_eq_false_iff_not, Bool.not_eq_true', Bool.not_eq_false', not_false_eq_true] at hsp)) | (with_reducible refine rF ?_))
   all_goals
    refine wE ?_
    simp only [go_sem, r_fixed_told]
    rfl
 ·have e0 : decide (9223372036854775807 < n) = true := decide_eq_true (by omega)
  rw [sgn_out (by omega)]
  repeat' (first | (with_reducible refine Cl_plain (f_fixed_nothing) ?_) | (simp only [go_sem, s_fixed_told, *]) | (simp (disch := omega) only [s_fixed_told, wrap_i64_of, i64_quo, i64_rem, sdiv, smod]) | ((with_reducible refine W_split (by with_unfolding_all exact rfl) (fun hsp => ?_) (fun hsp => ?_)) <;> (try simp only [Bool.not_true, Bool.not_false, decide_eq_true_eq, decide_eq_false_iff_not, Bool.not_eq_true', Bool.not_eq_false', not_false_eq_true] at hsp)) | ((with_reducible refine R_split (by with_unfolding_all exact rfl) (fun hsp => ?_) (fun hsp => ?_)) <;> (try simp only [Bool.not_true, Bool.not_false, decide_eq_true_eq, decide_eq_false_iff_not, Bool.not_eq_true', Bool.not_eq_false', not_false_eq_true] at hsp)) | (with_reducible refine rF ?_))
  all_goals
   refine wE ?_
   simp only [go_sem, r_fixed_told]
   rfl

theorem f_fixed_Int (v : Int) (h1 : -9223372036854775808 ≤ v) (h2 : v < 9223372036854775808) : Meets Tryz.prog E0 n_fixed_Int [I v] [] (NO (tellM (v * 1000000))) [] := by
 refine st0 m_fixed_Int ?_
 by_cases h : -9223372036854775808 < v * 1000000 ∧ v * 1000000 < 9223372036854775808
 ·rw [tell_in h.1 h.2]
  have d0 : decide (v < -9223372036854) = false := decide_eq_false (by omega)
  have d1 : decide (9223372036854 < v) = false := decide_eq_false (by omega)
  have e1 : IntKind.i64.wrap v = v := wrap_i64_of (by omega) (by omega)
  have e2 : IntKind.i64.wrap (v * 1000000) = v * 1000000 := wrap_i64_of (by omega) (by omega)
  clear h
  repeat' (first | (with_reducible refine Cl_plain (f_fixed_nothing) ?_) | (simp only [go_sem, s_fixed_Int, *]) | (simp (disch := omega) only [s_fixed_Int, wrap_i64_of, i64_quo, i64_rem, sdiv, smod]) | ((with_reducible refine W_split (by with_unfolding_all exact rfl) (fun hsp => ?_) (fun hsp => ?_)) <;> (try simp only [Bool.not_true, Bool.not_false, decide_eq_true_eq, decide_eq_false_iff_not, Bool.not_eq_true', Bool.not_eq_false', not_false_eq_true] at hsp)) | ((with_reducible refine R_split (by with_unfolding_all exact rfl) (fun hsp => ?_) (fun hsp => ?_)) <;> (try simp only [Bool.not_true, Bool.not_false, decide_eq_true_eq, decide_eq_false_iff_not, Bool.not_eq_true', Bool.not_eq_false', not_false_eq_true] at hsp)) | (with_reducible refine rF ?_))
  all_goals
   refine wE ?_
   simp only [go_sem, r_fixed_Int]
   rfl
 ·rw [tell_out (by omega)]
  cases d1 : decide (9223372036854 < v)
  ·have d0 : decide (v < -9223372036854) = true := decide_eq_true (by simp at d1; omega)
   clear h
   repeat' (first | (with_reducible refine Cl_plain (f_fixed_nothing) ?_) | (simp only [go_sem, s_fixed_Int, *]) | (simp (disch := omega) only [s_fixed_Int, wrap_i64_of, i64_quo, i64_rem, sdiv, smod]) | ((with_reducible refine W_split (by with_unfolding_all exact rfl) (fun hsp => ?_) (fun hsp => ?_)) <;> (try simp only [Bool.not_true, Bool.not_false, decide_eq_true_eq, decide_eq_false_iff_not, Bool.not_eq_true', Bool.not_eq_false', not_false_eq_true] at hsp)) | ((with_reducible refine R_split (by with_unfolding_all exact rfl) (fun hsp => ?_) (fun hsp => ?_)) <;> (try simp only [Bool.not_true, Bool.not_false, decide_eq_true_eq, decide_eq_false_iff_not, Bool.not_eq_true', Bool.not_eq_false', not_false_eq_true] at hsp)) | (with_reducible refine rF ?_))
   all_goals
    refine wE ?_
    simp only [go_sem, r_fixed_Int]
    rfl
  ·clear h
   repeat' (first | (with_reducible refine Cl_plain (f_fixed_nothing) ?_) | (simp only [go_sem, s_fixed_Int, *]) | (simp (disch := omega) only [s_fixed_Int, wrap_i64_of, i64_quo, i64_rem, sdiv, smod]) | ((with_reducible refine W_split (by with_unfolding_all exact rfl) (fun hsp => ?_) (fun hsp => ?_)) <;> (try simp only [Bool.not_true, Bool.not_false, decide_eq_true_eq, decide_eq_false_iff_not, Bool.not_eq_true', Bool.not_eq_false', not_false_eq_true] at hsp)) | ((with_reducible refine R_split (by with_unfolding_all exact rfl) (fun hsp => ?_) (fun hsp => ?_)) <;> (try simp only [Bool.not_true, Bool.not_false, decide_eq_true_eq, decide_eq_false_iff_not, Bool.not_eq_true', Bool.not_eq_false', not_false_eq_true] at hsp)) | (with_reducible refine rF ?_))
   all_goals
    refine wE ?_
    simp only [go_sem, r_fixed_Int]
    rfl

theorem f_fixed_Add (x y : Bool) (v u : Int) (h1 : -9223372036854775808 ≤ v) (h2 : v < 9223372036854775808) (h3 : -9223372036854775808 ≤ u) (h4 : u < 9223372036854775808) : Meets Tryz.prog E0 n_fixed_Add [NV x v, NV y u] [] (NO (addM (valM x v) (valM y u))) [] := by
 refine st0 m_fixed_Add ?_
 cases ha : okN x v
 ·rw [okN_f ha]
  repeat' (first | (with_reducible refine Cl_plain (f_fixed_there _ _) ?_) | (with_reducible refine Cl_plain (f_fixed_nothing) ?_) | (simp only [go_sem, s_fixed_Add, *]) | (simp (disch := omega) only [s_fixed_Add, wrap_i64_of, i64_quo, i64_rem, sdiv, smod]) | ((with_reducible refine W_split (by with_unfolding_all exact rfl) (fun hsp => ?_) (fun hsp => ?_)) <;> (try simp only [Bool.not_true, Bool.not_false, decide_eq_true_eq, decide_eq_false_iff_not, Bool.not_eq_true', Bool.not_eq_false', not_false_eq_true] at hsp)) | ((with_reducible refine R_split (by with_unfolding_all exact rfl) (fun hsp => ?_) (fun hsp => ?_)) <;> (try simp only [Bool.not_true, Bool.not_false, decide_eq_true_eq, decide_eq_false_iff_not, Bool.not_eq_true', Bool.not_eq_false', not_false_eq_true] at hsp)) | (with_reducible refine rF ?_))
  all_goals
    refine wE ?_
    simp only [go_sem, r_fixed_Add]
    rfl
 ·obtain ⟨e1, rfl, e3⟩ := okN_t ha
  cases hb : okN y u
  ·rw [e1, okN_f hb]
   repeat' (first | (with_reducible refine Cl_plain (f_fixed_there _ _) ?_) | (with_reducible refine Cl_plain (f_fixed_nothing) ?_) | (simp only [go_sem, s_fixed_Add, *]) | (simp (disch := omega) only [s_fixed_Add, wrap_i64_of, i64_quo, i64_rem, sdiv, smod]) | ((with_reducible refine W_split (by with_unfolding_all exact rfl) (fun hsp => ?_) (fun hsp => ?_)) <;> (try simp only [Bool.not_true, Bool.not_false, decide_eq_true_eq, decide_eq_false_iff_not, Bool.not_eq_true', Bool.not_eq_false', not_false_eq_true] at hsp)) | ((with_reducible refine R_split (by with_unfolding_all exact rfl) (fun hsp => ?_) (fun hsp => ?_)) <;> (try simp only [Bool.not_true, Bool.not_false, decide_eq_true_eq, decide_eq_false_iff_not, Bool.not_eq_true', Bool.not_eq_false', not_false_eq_true] at hsp)) | (with_reducible refine rF ?_))
   all_goals
    all_goals
     refine wE ?_
     simp only [go_sem, r_fixed_Add]
     rfl
  ·obtain ⟨g1, rfl, g3⟩ := okN_t hb
   rw [e1, g1]
   clear e1 g1
   by_cases hr : -9223372036854775808 < v + u ∧ v + u < 9223372036854775808
   ·have ew : IntKind.i64.wrap (v + u) = v + u := wrap_i64_of (by omega) (by omega)
    rw [show addM (some v) (some u) = some (v + u) from tell_in hr.1 hr.2]
    have hr1 := hr.1
    have hr2 := hr.2
    clear hr
    repeat' (first | (with_reducible refine Cl_plain (f_fixed_there _ _) ?_) | (with_reducible refine Cl_plain (f_fixed_nothing) ?_) | (simp only [go_sem, s_fixed_Add, ew, *]) | (simp (disch := omega) only [s_fixed_Add, ew, wrap_i64_of, i64_quo, i64_rem, sdiv, smod]) | ((with_reducible refine W_split (by with_unfolding_all exact rfl) (fun hsp => ?_) (fun hsp => ?_)) <;> (try simp only [Bool.not_true, Bool.not_false, decide_eq_true_eq, decide_eq_false_iff_not, Bool.not_eq_true', Bool.not_eq_false', not_false_eq_true] at hsp)) | ((with_reducible refine R_split (by with_unfolding_all exact rfl) (fun hsp => ?_) (fun hsp => ?_)) <;> (try simp only [Bool.not_true, Bool.not_false, decide_eq_true_eq, decide_eq_false_iff_not, Bool.not_eq_true', Bool.not_eq_false', not_false_eq_true] at hsp)) | (with_reducible refine rF ?_))
    all_goals
     refine wE ?_
     simp only [go_sem, r_fixed_Add]
     first | rfl | (exfalso; omega)
   ·rw [show addM (some v) (some u) = none from tell_out (by omega)]
    have hr1 : v + u ≤ -9223372036854775808 ∨ 9223372036854775808 ≤ v + u := by omega
    clear hr
    repeat' (first | (with_reducible refine Cl_plain (f_fixed_there _ _) ?_) | (with_reducible refine Cl_plain (f_fixed_nothing) ?_) | (simp only [go_sem, s_fixed_Add, *]) | (simp (disch := omega) only [s_fixed_Add, wrap_i64_of, i64_quo, i64_rem, sdiv, smod]) | ((with_reducible refine W_split (by with_unfolding_all exact rfl) (fun hsp => ?_) (fun hsp => ?_)) <;> (try simp only [Bool.not_true, Bool.not_false, decide_eq_true_eq, decide_eq_false_iff_not, Bool.not_eq_true', Bool.not_eq_false', not_false_eq_true] at hsp)) | ((with_reducible refine R_split (by with_unfolding_all exact rfl) (fun hsp => ?_) (fun hsp => ?_)) <;> (try simp only [Bool.not_true, Bool.not_false, decide_eq_true_eq, decide_eq_false_iff_not, Bool.not_eq_true', Bool.not_eq_false', not_false_eq_true] at hsp)) | (with_reducible refine rF ?_))
    all_goals
     refine wE ?_
     simp only [go_sem, r_fixed_Add]
     first | rfl | (exfalso; omega)

theorem f_fixed_quotient (x y d : Nat) (b : Bool) (hx : x < 18446744073709551616) (hy : y < 18446744073709551616) (hd : d < 18446744073709551616) : Meets Tryz.prog E0 n_fixed_quotient [U x, U y, U d, Bo b] [] (NO (quoM x y d b)) [] := by
 refine st0 m_fixed_quotient ?_
 have hm := mul_bound hx (Nat.le_of_lt hy)
 by_cases h0 : d = 0
 ·subst h0
  have e1 : quoM x y 0 b = none := if_pos rfl
  have e2 : roundE (x * y) 0 = 1 := by simp [roundE]
  rw [e1]
  clear e1
  repeat' (first | (with_reducible refine Cl_plain (f_wide_Mul x y hx hy) ?_) | (with_reducible refine Cl_plain (f_wide_Round (x * y) 0 hm hd) ?_) | (with_reducible refine Cl_plain (f_fixed_nothing) ?_) | (simp only [go_sem, s_fixed_quotient, e2, *]) | (simp (disch := omega) only [s_fixed_quotient, e2, wrap_i64_of, i64_quo, i64_rem, sdiv, smod]) | ((with_reducible refine W_split (by with_unfolding_all exact rfl) (fun hsp => ?_) (fun hsp => ?_)) <;> (try simp only [Bool.not_true, Bool.not_false, decide_eq_true_eq, decide_eq_false_iff_not, Bool.not_eq_true', Bool.not_eq_false', not_false_eq_true] at hsp)) | ((with_reducible refine R_split (by with_unfolding_all exact rfl) (fun hsp => ?_) (fun hsp => ?_)) <;> (try simp only [Bool.not_true, Bool.not_false, decide_eq_true_eq, decide_eq_false_iff_not, Bool.not_eq_true', Bool.not_eq_false', not_false_eq_true] at hsp)) | (with_reducible refine rF ?_))
  refine wE ?_
  simp only [go_sem, r_fixed_quotient]
  rfl
 ·by_cases h1 : 18446744073709551616 ≤ rnd (x * y) d
  ·have e1 : quoM x y d b = none := by simp only [quoM, if_neg h0, sgnM]; rw [if_neg (by omega)]
   have e2 : roundE (x * y) d = 3 := by simp [roundE, h0, h1]
   rw [e1]
   clear e1 h1 h0
   repeat' (first | (with_reducible refine Cl_plain (f_wide_Mul x y hx hy) ?_) | (with_reducible refine Cl_plain (f_wide_Round (x * y) d hm hd) ?_) | (with_reducible refine Cl_plain (f_fixed_nothing) ?_) | (simp only [go_sem, s_fixed_quotient, e2, *]) | (simp (disch := omega) only [s_fixed_quotient, e2, wrap_i64_of, i64_quo, i64_rem, sdiv, smod]) | ((with_reducible refine W_split (by with_unfolding_all exact rfl) (fun hsp => ?_) (fun hsp => ?_)) <;> (try simp only [Bool.not_true, Bool.not_false, decide_eq_true_eq, decide_eq_false_iff_not, Bool.not_eq_true', Bool.not_eq_false', not_false_eq_true] at hsp)) | ((with_reducible refine R_split (by with_unfolding_all exact rfl) (fun hsp => ?_) (fun hsp => ?_)) <;> (try simp only [Bool.not_true, Bool.not_false, decide_eq_true_eq, decide_eq_false_iff_not, Bool.not_eq_true', Bool.not_eq_false', not_false_eq_true] at hsp)) | (with_reducible refine rF ?_))
   refine wE ?_
   simp only [go_sem, r_fixed_quotient]
   rfl
  ·have e1 : quoM x y d b = sgnM (rnd (x * y) d) b := by simp only [quoM, if_neg h0]
   have e2 : roundE (x * y) d = 0 := by simp [roundE, h0, h1]
   have e3 : roundV (x * y) d = rnd (x * y) d := by simp [roundV, h0, h1]
   rw [e1]
   clear e1 h0
   repeat' (first | (with_reducible refine Cl_plain (f_wide_Mul x y hx hy) ?_) | (with_reducible refine Cl_plain (f_wide_Round (x * y) d hm hd) ?_) | (with_reducible refine Cl_plain (f_fixed_told _ _ (by omega)) ?_) | (simp only [go_sem, s_fixed_quotient, e2, e3, *]) | (simp (disch := omega) only [s_fixed_quotient, e2, e3, wrap_i64_of, i64_quo, i64_rem, sdiv, smod]) | ((with_reducible refine W_split (by with_unfolding_all exact rfl) (fun hsp => ?_) (fun hsp => ?_)) <;> (try simp only [Bool.not_true, Bool.not_false, decide_eq_true_eq, decide_eq_false_iff_not, Bool.not_eq_true', Bool.not_eq_false', not_false_eq_true] at hsp)) | ((with_reducible refine R_split (by with_unfolding_all exact rfl) (fun hsp => ?_) (fun hsp => ?_)) <;> (try simp only [Bool.not_true, Bool.not_false, decide_eq_true_eq, decide_eq_false_iff_not, Bool.not_eq_true', Bool.not_eq_false', not_false_eq_true] at hsp)) | (with_reducible refine rF ?_))
   refine wE ?_
   simp only [go_sem, r_fixed_quotient]

theorem f_fixed_Div (x y : Bool) (v u : Int) (h1 : -9223372036854775808 ≤ v) (h2 : v < 9223372036854775808) (h3 : -9223372036854775808 ≤ u) (h4 : u < 9223372036854775808) : Meets Tryz.prog E0 n_fixed_Div [NV x v, NV y u] [] (NO (divM (valM x v) (valM y u))) [] := by
 refine st0 m_fixed_Div ?_
 cases ha : okN x v
 ·rw [okN_f ha]
  repeat' (first | (with_reducible refine Cl_plain (f_fixed_there _ _) ?_) | (with_reducible refine Cl_plain (f_fixed_nothing) ?_) | (simp only [go_sem, s_fixed_Div, *]) | (simp (disch := omega) only [s_fixed_Div, wrap_i64_of, i64_quo, i64_rem, sdiv, smod]) | ((with_reducible refine W_split (by with_unfolding_all exact rfl) (fun hsp => ?_) (fun hsp => ?_)) <;> (try simp only [Bool.not_true, Bool.not_false, decide_eq_true_eq, decide_eq_false_iff_not, Bool.not_eq_true', Bool.not_eq_false', not_false_eq_true] at hsp)) | ((with_reducible refine R_split (by with_unfolding_all exact rfl) (fun hsp => ?_) (fun hsp => ?_)) <;> (try simp only [Bool.not_true, Bool.not_false, decide_eq_true_eq, decide_eq_false_iff_not, Bool.not_eq_true', Bool.not_eq_false', not_false_eq_true] at hsp)) | (with_reducible refine rF ?_))
  all_goals
   refine wE ?_
   simp only [go_sem, r_fixed_Div]
   rfl
 ·obtain ⟨e1, rfl, e3⟩ := okN_t ha
  cases hb : okN y u
  ·rw [e1, okN_f hb]
   repeat' (first | (with_reducible refine Cl_plain (f_fixed_there _ _) ?_) | (with_reducible refine Cl_plain (f_fixed_nothing) ?_) | (simp only [go_sem, s_fixed_Div, *]) | (simp (disch := omega) only [s_fixed_Div, wrap_i64_of, i64_quo, i64_rem, sdiv, smod]) | ((with_reducible refine W_split (by with_unfolding_all exact rfl) (fun hsp => ?_) (fun hsp => ?_)) <;> (try simp only [Bool.not_true, Bool.not_false, decide_eq_true_eq, decide_eq_false_iff_not, Bool.not_eq_true', Bool.not_eq_false', not_false_eq_true] at hsp)) | ((with_reducible refine R_split (by with_unfolding_all exact rfl) (fun hsp => ?_) (fun hsp => ?_)) <;> (try simp only [Bool.not_true, Bool.not_false, decide_eq_true_eq, decide_eq_false_iff_not, Bool.not_eq_true', Bool.not_eq_false', not_false_eq_true] at hsp)) | (with_reducible refine rF ?_))
   all_goals
    refine wE ?_
    simp only [go_sem, r_fixed_Div]
    rfl
  ·obtain ⟨g1, rfl, g3⟩ := okN_t hb
   rw [e1, g1]
   repeat' (first | (with_reducible refine Cl_plain (f_fixed_there _ _) ?_) | (with_reducible refine Cl_plain (f_fixed_size _ _ (by omega) (by omega)) ?_) | (with_reducible refine Cl_plain (f_fixed_quotient v.natAbs 1000000 u.natAbs (!(neg v == neg u)) (by omega) (by omega) (by omega)) ?_) | (simp only [go_sem, s_fixed_Div, *]) | (simp (disch := omega) only [s_fixed_Div, wrap_i64_of, i64_quo, i64_rem, sdiv, smod]) | ((with_reducible refine W_split (by with_unfolding_all exact rfl) (fun hsp => ?_) (fun hsp => ?_)) <;> (try simp only [Bool.not_true, Bool.not_false, decide_eq_true_eq, decide_eq_false_iff_not, Bool.not_eq_true', Bool.not_eq_false', not_false_eq_true] at hsp)) | ((with_reducible refine R_split (by with_unfolding_all exact rfl) (fun hsp => ?_) (fun hsp => ?_)) <;> (try simp only [Bool.not_true, Bool.not_false, decide_eq_true_eq, decide_eq_false_iff_not, Bool.not_eq_true', Bool.not_eq_false', not_false_eq_true] at hsp)) | (with_reducible refine rF ?_))
   all_goals
    refine wE ?_
    simp only [go_sem, r_fixed_Div]
    rfl

theorem f_cmp_isNaN_int64 (v : Int) : Meets Tryz.prog E0 n_cmp_isNaN_int64 [I v] [] (Bo false) [] := by
 refine st0 m_cmp_isNaN_int64 ?_
 have e0 : decide (v = v) = true := decide_eq_true rfl
 repeat' (first | (simp only [go_sem, s_cmp_isNaN_int64, e0, *]) | (simp (disch := omega) only [s_cmp_isNaN_int64, e0, wrap_i64_of, i64_quo, i64_rem, sdiv, smod]) | ((with_reducible refine W_split (by with_unfolding_all exact rfl) (fun hsp => ?_) (fun hsp => ?_)) <;> (try simp only [Bool.not_true, Bool.not_false, decide_eq_true_eq, decide_eq_false_iff_not, Bool.not_eq_true', Bool.not_eq_false', not_false_eq_true] at hsp)) | ((with_reducible refine R_split (by with_unfolding_all exact rfl) (fun hsp => ?_) (fun hsp => ?_)) <;> (try simp only [Bool.not_true, Bool.not_false, decide_eq_true_eq, decide_eq_false_iff_not, Bool.not_eq_true', Bool.not_eq_false', not_false_eq_true] at hsp)) | (with_reducible refine rF ?_))
 refine wE ?_
 simp only [go_sem, r_cmp_isNaN_int64]

theorem f_cmp_Compare_int64 (v u : Int) : Meets Tryz.prog E0 n_cmp_Compare_int64 [I v, I u] [] (I (if v < u then -1 else if u < v then 1 else 0)) [] := by
 refine st0 m_cmp_Compare_int64 ?_
 repeat' (first | (with_reducible refine Cl_plain (f_cmp_isNaN_int64 _) ?_) | (simp only [go_sem, s_cmp_Compare_int64, *]) | (simp (disch := omega) only [s_cmp_Compare_int64, wrap_i64_of, i64_quo, i64_rem, sdiv, smod]) | ((with_reducible refine W_split (by with_unfolding_all exact rfl) (fun hsp => ?_) (fun hsp => ?_)) <;> (try simp only [Bool.not_true, Bool.not_false, decide_eq_true_eq, decide_eq_false_iff_not, Bool.not_eq_true', Bool.not_eq_false', not_false_eq_true] at hsp)) | ((with_reducible refine R_split (by with_unfolding_all exact rfl) (fun hsp => ?_) (fun hsp => ?_)) <;> (try simp only [Bool.not_true, Bool.not_false, decide_eq_true_eq, decide_eq_false_iff_not, Bool.not_eq_true', Bool.not_eq_false', not_false_eq_true] at hsp)) | (with_reducible refine rF ?_))
 all_goals
  refine wE ?_
  simp only [go_sem, r_cmp_Compare_int64, *]

theorem f_fixed_Cmp (x y : Bool) (v u : Int) : Meets Tryz.prog E0 n_fixed_Cmp [NV x v, NV y u] [] (I (cmpM (valM x v) (valM y u))) [] := by
 refine st0 m_fixed_Cmp ?_
 cases ha : okN x v <;> cases hb : okN y u
 ·rw [okN_f ha, okN_f hb]
  repeat' (first | (with_reducible refine Cl_plain (f_fixed_there _ _) ?_) | (simp only [go_sem, s_fixed_Cmp, *]) | (simp (disch := omega) only [s_fixed_Cmp, wrap_i64_of, i64_quo, i64_rem, sdiv, smod]) | ((with_reducible refine W_split (by with_unfolding_all exact rfl) (fun hsp => ?_) (fun hsp => ?_)) <;> (try simp only [Bool.not_true, Bool.not_false, decide_eq_true_eq, decide_eq_false_iff_not, Bool.not_eq_true', Bool.not_eq_false', not_false_eq_true] at hsp)) | ((with_reducible refine R_split (by with_unfolding_all exact rfl) (fun hsp => ?_) (fun hsp => ?_)) <;> (try simp only [Bool.not_true, Bool.not_false, decide_eq_true_eq, decide_eq_false_iff_not, Bool.not_eq_true', Bool.not_eq_false', not_false_eq_true] at hsp)) | (with_reducible refine rF ?_))
  all_goals
   refine wE ?_
   simp only [go_sem, r_fixed_Cmp]
   rfl
 ·rw [okN_f ha, (okN_t hb).1]
  repeat' (first | (with_reducible refine Cl_plain (f_fixed_there _ _) ?_) | (simp only [go_sem, s_fixed_Cmp, *]) | (simp (disch := omega) only [s_fixed_Cmp, wrap_i64_of, i64_quo, i64_rem, sdiv, smod]) | ((with_reducible refine W_split (by with_unfolding_all exact rfl) (fun hsp => ?_) (fun hsp => ?_)) <;> (try simp only [Bool.not_true, Bool.not_false, decide_eq_true_eq, decide_eq_false_iff_not, Bool.not_eq_true', Bool.not_eq_false', not_false_eq_true] at hsp)) | ((with_reducible refine R_split (by with_unfolding_all exact rfl) (fun hsp => ?_) (fun hsp => ?_)) <;> (try simp only [Bool.not_true, Bool.not_false, decide_eq_true_eq, decide_eq_false_iff_not, Bool.not_eq_true', Bool.not_eq_false', not_false_eq_true] at hsp)) | (with_reducible refine rF ?_))
  all_goals
   refine wE ?_
   simp only [go_sem, r_fixed_Cmp]
   rfl
 ·rw [(okN_t ha).1, okN_f hb]
  repeat' (first | (with_reducible refine Cl_plain (f_fixed_there _ _) ?_) | (simp only [go_sem, s_fixed_Cmp, *]) | (simp (disch := omega) only [s_fixed_Cmp, wrap_i64_of, i64_quo, i64_rem, sdiv, smod]) | ((with_reducible refine W_split (by with_unfolding_all exact rfl) (fun hsp => ?_) (fun hsp => ?_)) <;> (try simp only [Bool.not_true, Bool.not_false, decide_eq_true_eq, decide_eq_false_iff_not, Bool.not_eq_true', Bool.not_eq_false', not_false_eq_true] at hsp)) | ((with_reducible refine R_split (by with_unfolding_all exact rfl) (fun hsp => ?_) (fun hsp => ?_)) <;> (try simp only [Bool.not_true, Bool.not_false, decide_eq_true_eq, decide_eq_false_iff_not, Bool.not_eq_true', Bool.not_eq_false', not_false_eq_true] at hsp)) | (with_reducible refine rF ?_))
  all_goals
   refine wE ?_
   simp only [go_sem, r_fixed_Cmp]
   rfl
 ·rw [(okN_t ha).1, (okN_t hb).1]
  repeat' (first | (with_reducible refine Cl_plain (f_fixed_there _ _) ?_) | (with_reducible refine Cl_plain (f_cmp_Compare_int64 _ _) ?_) | (simp only [go_sem, s_fixed_Cmp, *]) | (simp (disch := omega) only [s_fixed_Cmp, wrap_i64_of, i64_quo, i64_rem, sdiv, smod]) | ((with_reducible refine W_split (by with_unfolding_all exact rfl) (fun hsp => ?_) (fun hsp => ?_)) <;> (try simp only [Bool.not_true, Bool.not_false, decide_eq_true_eq, decide_eq_false_iff_not, Bool.not_eq_true', Bool.not_eq_false', not_false_eq_true] at hsp)) | ((with_reducible refine R_split (by with_unfolding_all exact rfl) (fun hsp => ?_) (fun hsp => ?_)) <;> (try simp only [Bool.not_true, Bool.not_false, decide_eq_true_eq, decide_eq_false_iff_not, Bool.not_eq_true', Bool.not_eq_false', not_false_eq_true] at hsp)) | (with_reducible refine rF ?_))
  all_goals
   refine wE ?_
   simp only [go_sem, r_fixed_Cmp]
   rfl

/-- The one of two that is wanted, where both count; else the one that counts. -/
def pickM (a b : Option Int) (w : Bool) : Option Int := match a, b with
 | some x, some y => if w then some x else some y
 | some x, none => some x
 | none, y => y

theorem f_fixed_pick (x y w : Bool) (v u : Int) : Meets Tryz.prog E0 n_fixed_pick [NV x v, NV y u, Bo w] [] (NO (pickM (valM x v) (valM y u) w)) [] := by
 refine st0 m_fixed_pick ?_
 cases ha : okN x v <;> cases hb : okN y u
 ·rw [okN_f ha, okN_f hb]
  repeat' (first | (with_reducible refine Cl_plain (f_fixed_there _ _) ?_) | (with_reducible refine Cl_plain (f_fixed_nothing) ?_) | (simp only [go_sem, s_fixed_pick, *]) | (simp (disch := omega) only [s_fixed_pick, wrap_i64_of, i64_quo, i64_rem, sdiv, smod]) | ((with_reducible refine W_split (by with_unfolding_all exact rfl) (fun hsp => ?_) (fun hsp => ?_)) <;> (try simp only [Bool.not_true, Bool.not_false, decide_eq_true_eq, decide_eq_false_iff_not, Bool.not_eq_true', Bool.not_eq_false', not_false_eq_true] at hsp)) | ((with_reducible refine R_split (by with_unfolding_all exact rfl) (fun hsp => ?_) (fun hsp => ?_)) <;> (try simp only [Bool.not_true, Bool.not_false, decide_eq_true_eq, decide_eq_false_iff_not, Bool.not_eq_true', Bool.not_eq_false', not_false_eq_true] at hsp)) | (with_reducible refine rF ?_))
  all_goals
   refine wE ?_
   simp only [go_sem, r_fixed_pick]
   rfl
 ·obtain ⟨g1, rfl, g3⟩ := okN_t hb
  rw [okN_f ha, g1]
  repeat' (first | (with_reducible refine Cl_plain (f_fixed_there _ _) ?_) | (simp only [go_sem, s_fixed_pick, *]) | (simp (disch := omega) only [s_fixed_pick, wrap_i64_of, i64_quo, i64_rem, sdiv, smod]) | ((with_reducible refine W_split (by with_unfolding_all exact rfl) (fun hsp => ?_) (fun hsp => ?_)) <;> (try simp only [Bool.not_true, Bool.not_false, decide_eq_true_eq, decide_eq_false_iff_not, Bool.not_eq_true', Bool.not_eq_false', not_false_eq_true] at hsp)) | ((with_reducible refine R_split (by with_unfolding_all exact rfl) (fun hsp => ?_) (fun hsp => ?_)) <;> (try simp only [Bool.not_true, Bool.not_false, decide_eq_true_eq, decide_eq_false_iff_not, Bool.not_eq_true', Bool.not_eq_false', not_false_eq_true] at hsp)) | (with_reducible refine rF ?_))
  all_goals
   refine wE ?_
   simp only [go_sem, r_fixed_pick]
   rfl
 ·obtain ⟨g1, rfl, g3⟩ := okN_t ha
  rw [g1, okN_f hb]
  repeat' (first | (with_reducible refine Cl_plain (f_fixed_there _ _) ?_) | (simp only [go_sem, s_fixed_pick, *]) | (simp (disch := omega) only [s_fixed_pick, wrap_i64_of, i64_quo, i64_rem, sdiv, smod]) | ((with_reducible refine W_split (by with_unfolding_all exact rfl) (fun hsp => ?_) (fun hsp => ?_)) <;> (try simp only [Bool.not_true, Bool.not_false, decide_eq_true_eq, decide_eq_false_iff_not, Bool.not_eq_true', Bool.not_eq_false', not_false_eq_true] at hsp)) | ((with_reducible refine R_split (by with_unfolding_all exact rfl) (fun hsp => ?_) (fun hsp => ?_)) <;> (try simp only [Bool.not_true, Bool.not_false, decide_eq_true_eq, decide_eq_false_iff_not, Bool.not_eq_true', Bool.not_eq_false', not_false_eq_true] at hsp)) | (with_reducible refine rF ?_))
  all_goals
   refine wE ?_
   simp only [go_sem, r_fixed_pick]
   rfl
 ·obtain ⟨g1, rfl, g3⟩ := okN_t ha
  obtain ⟨e1, rfl, e3⟩ := okN_t hb
  rw [e1, g1]
  cases w
  all_goals
   repeat' (first | (with_reducible refine Cl_plain (f_fixed_there _ _) ?_) | (simp only [go_sem, s_fixed_pick, *]) | (simp (disch := omega) only [s_fixed_pick, wrap_i64_of, i64_quo, i64_rem, sdiv, smod]) | ((with_reducible refine W_split (by with_unfolding_all exact rfl) (fun hsp => ?_) (fun hsp => ?_)) <;> (try simp only [Bool.not_true, Bool.not_false, decide_eq_true_eq, decide_eq_false_iff_not, Bool.not_eq_true', Bool.not_eq_false', not_false_eq_true] at hsp)) | ((with_reducible refine R_split (by with_unfolding_all exact rfl) (fun hsp => ?_) (fun hsp => ?_)) <;> (try simp only [Bool.not_true, Bool.not_false, decide_eq_true_eq, decide_eq_false_iff_not, Bool.not_eq_true', Bool.not_eq_false', not_false_eq_true] at hsp)) | (with_reducible refine rF ?_))
   all_goals
    refine wE ?_
    simp only [go_sem, r_fixed_pick]
    rfl

theorem pick_less (x y : Bool) (v u : Int) : pickM (valM x v) (valM y u) (decide (v ≤ u)) = lessM (valM x v) (valM y u) := by
 cases ha : okN x v <;> cases hb : okN y u
 ·rw [okN_f ha, okN_f hb]; rfl
 ·rw [okN_f ha, (okN_t hb).1]; rfl
 ·rw [(okN_t ha).1, okN_f hb]; rfl
 ·rw [(okN_t ha).1, (okN_t hb).1]; simp [pickM, lessM]

theorem pick_more (x y : Bool) (v u : Int) : pickM (valM x v) (valM y u) (decide (u ≤ v)) = moreM (valM x v) (valM y u) := by
 cases ha : okN x v <;> cases hb : okN y u
 ·rw [okN_f ha, okN_f hb]; rfl
 ·rw [okN_f ha, (okN_t hb).1]; rfl
 ·rw [(okN_t ha).1, okN_f hb]; rfl
 ·rw [(okN_t ha).1, (okN_t hb).1]; simp [pickM, moreM]

theorem f_fixed_Less (x y : Bool) (v u : Int) : Meets Tryz.prog E0 n_fixed_Less [NV x v, NV y u] [] (NO (lessM (valM x v) (valM y u))) [] := by
 refine st0 m_fixed_Less ?_
 rw [← pick_less]
 repeat' (first | (with_reducible refine Cl_plain (f_fixed_pick _ _ _ _ _) ?_) | (simp only [go_sem, s_fixed_Less, *]) | (simp (disch := omega) only [s_fixed_Less, wrap_i64_of, i64_quo, i64_rem, sdiv, smod]) | ((with_reducible refine W_split (by with_unfolding_all exact rfl) (fun hsp => ?_) (fun hsp => ?_)) <;> (try simp only [Bool.not_true, Bool.not_false, decide_eq_true_eq, decide_eq_false_iff_not, Bool.not_eq_true', Bool.not_eq_false', not_false_eq_true] at hsp)) | ((with_reducible refine R_split (by with_unfolding_all exact rfl) (fun hsp => ?_) (fun hsp => ?_)) <;> (try simp only [Bool.not_true, Bool.not_false, decide_eq_true_eq, decide_eq_false_iff_not, Bool.not_eq_true', Bool.not_eq_false', not_false_eq_true] at hsp)) | (with_reducible refine rF ?_))
 refine wE ?_
 simp only [go_sem, r_fixed_Less]

theorem f_fixed_More (x y : Bool) (v u : Int) : Meets Tryz.prog E0 n_fixed_More [NV x v, NV y u] [] (NO (moreM (valM x v) (valM y u))) [] := by
 refine st0 m_fixed_More ?_
 rw [← pick_more]
 repeat' (first | (with_reducible refine Cl_plain (f_fixed_pick _ _ _ _ _) ?_) | (simp only [go_sem, s_fixed_More, *]) | (simp (disch := omega) only [s_fixed_More, wrap_i64_of, i64_quo, i64_rem, sdiv, smod]) | ((with_reducible refine W_split (by with_unfolding_all exact rfl) (fun hsp => ?_) (fun hsp => ?_)) <;> (try simp only [Bool.not_true, Bool.not_false, decide_eq_true_eq, decide_eq_false_iff_not, Bool.not_eq_true', Bool.not_eq_false', not_false_eq_true] at hsp)) | ((with_reducible refine R_split (by with_unfolding_all exact rfl) (fun hsp => ?_) (fun hsp => ?_)) <;> (try simp only [Bool.not_true, Bool.not_false, decide_eq_true_eq, decide_eq_false_iff_not, Bool.not_eq_true', Bool.not_eq_false', not_false_eq_true] at hsp)) | (with_reducible refine rF ?_))
 refine wE ?_
 simp only [go_sem, r_fixed_More]

end Go.Proofs.YtgmpceijcdimkaaGreatDoor
namespace Go.Proofs.YtgmpceijcdimkaaGreatDoor
open Go Go.Sx

theorem f_ref02_Nothing : Meets Tryz.prog E0 n_ref02_Nothing [] [] (NO none) [] := by
 refine st0 m_ref02_Nothing ?_
 simp only [go_sem, s_ref02_Nothing]
 all_goals
  refine wE ?_
  simp only [go_sem, r_ref02_Nothing]
  rfl

theorem f_ref02_Right (x : Bool) (v : Int) (h1 : -9223372036854775808 ≤ v) : Meets Tryz.prog E0 n_ref02_Right [NV x v] [] (Bo (if x then decide (v = 0) else decide (-9223372036854775808 < v))) [] := by
 refine st0 m_ref02_Right ?_
 cases x
 all_goals
  repeat' (first | (simp only [go_sem, s_ref02_Right, *]) | (simp (disch := omega) only [s_ref02_Right, wrap_i64_of, i64_quo, i64_rem, sdiv, smod]) | ((with_reducible refine W_split (by with_unfolding_all exact rfl) (fun hsp => ?_) (fun hsp => ?_)) <;> (try simp only [Bool.not_true, Bool.not_false, decide_eq_true_eq, decide_eq_false_iff_not, Bool.not_eq_true', Bool.not_eq_false', not_false_eq_true] at hsp)) | ((with_reducible refine R_split (by with_unfolding_all exact rfl) (fun hsp => ?_) (fun hsp => ?_)) <;> (try simp only [Bool.not_true, Bool.not_false, decide_eq_true_eq, decide_eq_false_iff_not, Bool.not_eq_true', Bool.not_eq_false', not_false_eq_true] at hsp)) | (with_reducible refine rF ?_))
  refine wE ?_
  simp only [go_sem, r_ref02_Right]
  try (simp only [Option.some.injEq, AV.tp.injEq, AV.ag.injEq, List.cons.injEq, AV.t.injEq, T.v.injEq, T.sl.injEq, Value.int.injEq, Value.bool.injEq, Value.string.injEq, decide_eq_decide, true_and, and_true]; rw [Bool.eq_iff_iff]; simp; omega)

theorem f_ref02_is (x : Bool) (v : Int) (h1 : -9223372036854775808 ≤ v) : Meets Tryz.prog E0 n_ref02_is [NV x v] [] (Bo (okN x v)) [] := by
 refine st0 m_ref02_is ?_
 unfold okN
 have e := f_ref02_Right x v h1
 cases x
 ·simp only [Bool.false_eq_true, if_false] at e
  cases hd : decide (-9223372036854775808 < v)
  all_goals
   rw [hd] at e
   repeat' (first | (with_reducible refine Cl_plain (e) ?_) | (simp only [go_sem, s_ref02_is, *]) | (simp (disch := omega) only [s_ref02_is, wrap_i64_of, i64_quo, i64_rem, sdiv, smod]) | ((with_reducible refine W_split (by with_unfolding_all exact rfl) (fun hsp => ?_) (fun hsp => ?_)) <;> (try simp only [Bool.not_true, Bool.not_false, decide_eq_true_eq, decide_eq_false_iff_not, Bool.not_eq_true', Bool.not_eq_false', not_false_eq_true] at hsp)) | ((with_reducible refine R_split (by with_unfolding_all exact rfl) (fun hsp => ?_) (fun hsp => ?_)) <;> (try simp only [Bool.not_true, Bool.not_false, decide_eq_true_eq, decide_eq_false_iff_not, Bool.not_eq_true', Bool.not_eq_false', not_false_eq_true] at hsp)) | (with_reducible refine rF ?_))
   refine wE ?_
   simp only [go_sem, r_ref02_is]
 ·simp only [if_true] at e
  cases hd : decide (v = 0)
  all_goals
   rw [hd] at e
   repeat' (first | (with_reducible refine Cl_plain (e) ?_) | (simp only [go_sem, s_ref02_is, *]) | (simp (disch := omega) only [s_ref02_is, wrap_i64_of, i64_quo, i64_rem, sdiv, smod]) | ((with_reducible refine W_split (by with_unfolding_all exact rfl) (fun hsp => ?_) (fun hsp => ?_)) <;> (try simp only [Bool.not_true, Bool.not_false, decide_eq_true_eq, decide_eq_false_iff_not, Bool.not_eq_true', Bool.not_eq_false', not_false_eq_true] at hsp)) | ((with_reducible refine R_split (by with_unfolding_all exact rfl) (fun hsp => ?_) (fun hsp => ?_)) <;> (try simp only [Bool.not_true, Bool.not_false, decide_eq_true_eq, decide_eq_false_iff_not, Bool.not_eq_true', Bool.not_eq_false', not_false_eq_true] at hsp)) | (with_reducible refine rF ?_))
   refine wE ?_
   simp only [go_sem, r_ref02_is]

theorem f_ref02_Of (v : Int) (h1 : -9223372036854775808 ≤ v) (h2 : v < 9223372036854775808) : Meets Tryz.prog E0 n_ref02_Of [I v] [] (NO (valM false v)) [] := by
 refine st0 m_ref02_Of ?_
 have e := f_ref02_Right false v h1
 simp only [Bool.false_eq_true, if_false] at e
 by_cases h : -9223372036854775808 < v
 ·rw [val_in h]
  rw [decide_eq_true h] at e
  repeat' (first | (with_reducible refine Cl_plain (e) ?_) | (with_reducible refine Cl_plain (f_ref02_Nothing) ?_) | (simp only [go_sem, s_ref02_Of, *]) | (simp (disch := omega) only [s_ref02_Of, wrap_i64_of, i64_quo, i64_rem, sdiv, smod]) | ((with_reducible refine W_split (by with_unfolding_all exact rfl) (fun hsp => ?_) (fun hsp => ?_)) <;> (try simp only [Bool.not_true, Bool.not_false, decide_eq_true_eq, decide_eq_false_iff_not, Bool.not_eq_true', Bool.not_eq_false', not_false_eq_true] at hsp)) | ((with_reducible refine R_split (by with_unfolding_all exact rfl) (fun hsp => ?_) (fun hsp => ?_)) <;> (try simp only [Bool.not_true, Bool.not_false, decide_eq_true_eq, decide_eq_false_iff_not, Bool.not_eq_true', Bool.not_eq_false', not_false_eq_true] at hsp)) | (with_reducible refine rF ?_))
  all_goals
   refine wE ?_
   simp only [go_sem, r_ref02_Of]
   rfl
 ·rw [val_out (by omega)]
  rw [decide_eq_false h] at e
  repeat' (first | (with_reducible refine Cl_plain (e) ?_) | (with_reducible refine Cl_plain (f_ref02_Nothing) ?_) | (simp only [go_sem, s_ref02_Of, *]) | (simp (disch := omega) only [s_ref02_Of, wrap_i64_of, i64_quo, i64_rem, sdiv, smod]) | ((with_reducible refine W_split (by with_unfolding_all exact rfl) (fun hsp => ?_) (fun hsp => ?_)) <;> (try simp only [Bool.not_true, Bool.not_false, decide_eq_true_eq, decide_eq_false_iff_not, Bool.not_eq_true', Bool.not_eq_false', not_false_eq_true] at hsp)) | ((with_reducible refine R_split (by with_unfolding_all exact rfl) (fun hsp => ?_) (fun hsp => ?_)) <;> (try simp only [Bool.not_true, Bool.not_false, decide_eq_true_eq, decide_eq_false_iff_not, Bool.not_eq_true', Bool.not_eq_false', not_false_eq_true] at hsp)) | (with_reducible refine rF ?_))
  all_goals
   refine wE ?_
   simp only [go_sem, r_ref02_Of]
   rfl

theorem f_ref02_size (v : Int) (h1 : -9223372036854775808 ≤ v) (h2 : v < 9223372036854775808) : Meets Tryz.prog E0 n_ref02_size [I v] [] (U ((v.natAbs : Nat) : Int)) [] := by
 refine st0 m_ref02_size ?_
 by_cases h : v < 0
 ·have g1 : IntKind.u64.wrap (0 - (v + 1)) = ((v.natAbs - 1 : Nat) : Int) := by rw [wrap_u64]; omega
  have g2 : ((v.natAbs - 1 + 1) % 18446744073709551616 : Nat) = v.natAbs := by omega
  repeat' (first | (simp only [go_sem, s_ref02_size, g1, g2, *]) | (simp (disch := omega) only [s_ref02_size, g1, g2, wrap_i64_of, i64_quo, i64_rem, sdiv, smod]) | ((with_reducible refine W_split (by with_unfolding_all exact rfl) (fun hsp => ?_) (fun hsp => ?_)) <;> (try simp only [Bool.not_true, Bool.not_false, decide_eq_true_eq, decide_eq_false_iff_not, Bool.not_eq_true', Bool.not_eq_false', not_false_eq_true] at hsp)) | ((with_reducible refine R_split (by with_unfolding_all exact rfl) (fun hsp => ?_) (fun hsp => ?_)) <;> (try simp only [Bool.not_true, Bool.not_false, decide_eq_true_eq, decide_eq_false_iff_not, Bool.not_eq_true', Bool.not_eq_false', not_false_eq_true] at hsp)) | (with_reducible refine rF ?_))
  refine wE ?_
  simp only [go_sem, r_ref02_size, g2]
 ·have g1 : IntKind.u64.wrap v = ((v.natAbs : Nat) : Int) := by rw [wrap_u64]; omega
  repeat' (first | (simp only [go_sem, s_ref02_size, g1, *]) | (simp (disch := omega) only [s_ref02_size, g1, wrap_i64_of, i64_quo, i64_rem, sdiv, smod]) | ((with_reducible refine W_split (by with_unfolding_all exact rfl) (fun hsp => ?_) (fun hsp => ?_)) <;> (try simp only [Bool.not_true, Bool.not_false, decide_eq_true_eq, decide_eq_false_iff_not, Bool.not_eq_true', Bool.not_eq_false', not_false_eq_true] at hsp)) | ((with_reducible refine R_split (by with_unfolding_all exact rfl) (fun hsp => ?_) (fun hsp => ?_)) <;> (try simp only [Bool.not_true, Bool.not_false, decide_eq_true_eq, decide_eq_false_iff_not, Bool.not_eq_true', Bool.not_eq_false', not_false_eq_true] at hsp)) | (with_reducible refine rF ?_))
  refine wE ?_
  simp only [go_sem, r_ref02_size, *]

theorem f_ref02_signed (n : Nat) (b : Bool) (h : n < 18446744073709551616) : Meets Tryz.prog E0 n_ref02_signed [U n, Bo b] [] (NO (sgnM n b)) [] := by
 refine st0 m_ref02_signed ?_
 by_cases hn : n < 9223372036854775808
 ·have e0 : decide (9223372036854775807 < n) = false := decide_eq_false (by omega)
  have f1 : IntKind.i64.wrap (n : Int) = n := wrap_i64_of (by omega) (by omega)
  have f2 : IntKind.i64.wrap (0 - (n : Int)) = -n := by rw [wrap_i64_of (by omega) (by omega)]; omega
  cases b
  ·rw [sgn_pos hn]
   repeat' (first | (simp only [go_sem, s_ref02_signed, *]) | (simp (disch := omega) only [s_ref02_signed, wrap_i64_of, i64_quo, i64_rem, sdiv, smod]) | ((with_reducible refine W_split (by with_unfolding_all exact rfl) (fun hsp => ?_) (fun hsp => ?_)) <;> (try simp only [Bool.not_true, Bool.not_false, decide_eq_true_eq, decide_eq_false_iff_not, Bool.not_eq_true', Bool.not_eq_false', not_false_eq_true] at hsp)) | ((with_reducible refine R_split (by with_unfolding_all exact rfl) (fun hsp => ?_) (fun hsp => ?_)) <;> (try simp only [Bool.not_true, Bool.not_false, decide_eq_true_eq, decide_eq_false_iff_not, Bool.not_eq_true', Bool.not_eq_false', not_false_eq_true] at hsp)) | (with_reducible refine rF ?_))
   refine wE ?_
   simp only [go_sem, r_ref02_signed]
   rfl
  ·rw [sgn_neg hn]
   repeat' (first | (simp only [go_sem, s_ref02_signed, *]) | (simp (disch := omega) only [s_ref02_signed, wrap_i64_of, i64_quo, i64_rem, sdiv, smod]) | ((with_reducible refine W_split (by with_unfolding_all exact rfl) (fun hsp => ?_) (fun hsp => ?_)) <;> (try simp only [Bool.not_true, Bool.not_false, decide_eq_true_eq, decide_eq_false_iff_not, Bool.not_eq_true', Bool.not_eq_false', not_false_eq_true] at hsp)) | ((with_reducible refine R_split (by with_unfolding_all exact rfl) (fun hsp => ?_) (fun hsp => ?_)) <;> (try simp only [Bool.not_true, Bool.not_false, decide_eq_true_eq, decide_eq_false_iff_not, Bool.not_eq_true', Bool.not_eq_false', not_false_eq_true] at hsp)) | (with_reducible refine rF ?_))
   refine wE ?_
   simp only [go_sem, r_ref02_signed]
   rfl
 ·have e0 : decide (9223372036854775807 < n) = true := decide_eq_true (by omega)
  rw [sgn_out (by omega)]
  repeat' (first | (with_reducible refine Cl_plain (f_ref02_Nothing) ?_) | (simp only [go_sem, s_ref02_signed, *]) | (simp (disch := omega) only [s_ref02_signed, wrap_i64_of, i64_quo, i64_rem, sdiv, smod]) | ((with_reducible refine W_split (by with_unfolding_all exact rfl) (fun hsp => ?_) (fun hsp => ?_)) <;> (try simp only [Bool.not_true, Bool.not_false, decide_eq_true_eq, decide_eq_false_iff_not, Bool.not_eq_true', Bool.not_eq_false', not_false_eq_true] at hsp)) | ((with_reducible refine R_split (by with_unfolding_all exact rfl) (fun hsp => ?_) (fun hsp => ?_)) <;> (try simp only [Bool.not_true, Bool.not_false, decide_eq_true_eq, decide_eq_false_iff_not, Bool.not_eq_true', Bool.not_eq_false', not_false_eq_true] at hsp)) | (with_reducible refine rF ?_))
  refine wE ?_
  simp only [go_sem, r_ref02_signed]
  rfl

theorem f_ref02_Int (v : Int) (h1 : -9223372036854775808 ≤ v) (h2 : v < 9223372036854775808) : Meets Tryz.prog E0 n_ref02_Int [I v] [] (NO (tellM (v * 1000000))) [] := by
 refine st0 m_ref02_Int ?_
 have e0 : IntKind.i64.wrap v = v := wrap_i64_of (by omega) (by omega)
 by_cases hw : v.natAbs * 1000000 < 18446744073709551616
 ·have e1 : decide (v.natAbs * 1000000 / 18446744073709551616 = 0) = true := decide_eq_true (by omega)
  have hs : sgnM (v.natAbs * 1000000 % 18446744073709551616) (decide (v < 0)) = tellM (v * 1000000) := sgn_tell (by split <;> (rename_i h; simp at h; omega))
  rw [← hs]
  clear hs hw
  repeat' (first | (with_reducible refine Cl_plain (f_ref02_size v h1 h2) ?_) | (with_reducible refine Cl_plain (f_ref01_Mul v.natAbs 1000000 (by omega) (by omega)) ?_) | (with_reducible refine Cl_plain (f_ref02_signed _ _ (by omega)) ?_) | (simp only [go_sem, s_ref02_Int, *]) | (simp (disch := omega) only [s_ref02_Int, wrap_i64_of, i64_quo, i64_rem, sdiv, smod]) | ((with_reducible refine W_split (by with_unfolding_all exact rfl) (fun hsp => ?_) (fun hsp => ?_)) <;> (try simp only [Bool.not_true, Bool.not_false, decide_eq_true_eq, decide_eq_false_iff_not, Bool.not_eq_true', Bool.not_eq_false', not_false_eq_true] at hsp)) | ((with_reducible refine R_split (by with_unfolding_all exact rfl) (fun hsp => ?_) (fun hsp => ?_)) <;> (try simp only [Bool.not_true, Bool.not_false, decide_eq_true_eq, decide_eq_false_iff_not, Bool.not_eq_true', Bool.not_eq_false', not_false_eq_true] at hsp)) | (with_reducible refine rF ?_))
  refine wE ?_
  simp only [go_sem, r_ref02_Int]
 ·have e1 : decide (v.natAbs * 1000000 / 18446744073709551616 = 0) = false := decide_eq_false (by omega)
  rw [tell_out (by omega)]
  clear hw
  repeat' (first | (with_reducible refine Cl_plain (f_ref02_size v h1 h2) ?_) | (with_reducible refine Cl_plain (f_ref01_Mul v.natAbs 1000000 (by omega) (by omega)) ?_) | (with_reducible refine Cl_plain (f_ref02_Nothing) ?_) | (simp only [go_sem, s_ref02_Int, *]) | (simp (disch := omega) only [s_ref02_Int, wrap_i64_of, i64_quo, i64_rem, sdiv, smod]) | ((with_reducible refine W_split (by with_unfolding_all exact rfl) (fun hsp => ?_) (fun hsp => ?_)) <;> (try simp only [Bool.not_true, Bool.not_false, decide_eq_true_eq, decide_eq_false_iff_not, Bool.not_eq_true', Bool.not_eq_false', not_false_eq_true] at hsp)) | ((with_reducible refine R_split (by with_unfolding_all exact rfl) (fun hsp => ?_) (fun hsp => ?_)) <;> (try simp only [Bool.not_true, Bool.not_false, decide_eq_true_eq, decide_eq_false_iff_not, Bool.not_eq_true', Bool.not_eq_false', not_false_eq_true] at hsp)) | (with_reducible refine rF ?_))
  refine wE ?_
  simp only [go_sem, r_ref02_Int]
  rfl

theorem f_ref02_Add (x y : Bool) (v u : Int) (h1 : -9223372036854775808 ≤ v) (h2 : v < 9223372036854775808) (h3 : -9223372036854775808 ≤ u) (h4 : u < 9223372036854775808) : Meets Tryz.prog E0 n_ref02_Add [NV x v, NV y u] [] (NO (addM (valM x v) (valM y u))) [] := by
 refine st0 m_ref02_Add ?_
 cases ha : okN x v
 ·rw [okN_f ha]
  repeat' (first | (with_reducible refine Cl_plain (f_ref02_is _ _ (by omega)) ?_) | (with_reducible refine Cl_plain (f_ref02_Nothing) ?_) | (simp only [go_sem, s_ref02_Add, *]) | (simp (disch := omega) only [s_ref02_Add, wrap_i64_of, i64_quo, i64_rem, sdiv, smod]) | ((with_reducible refine W_split (by with_unfolding_all exact rfl) (fun hsp => ?_) (fun hsp => ?_)) <;> (try simp only [Bool.not_true, Bool.not_false, decide_eq_true_eq, decide_eq_false_iff_not, Bool.not_eq_true', Bool.not_eq_false', not_false_eq_true] at hsp)) | ((with_reducible refine R_split (by with_unfolding_all exact rfl) (fun hsp => ?_) (fun hsp => ?_)) <;> (try simp only [Bool.not_true, Bool.not_false, decide_eq_true_eq, decide_eq_false_iff_not, Bool.not_eq_true', Bool.not_eq_false', not_false_eq_true] at hsp)) | (with_reducible refine rF ?_))
  all_goals
   refine wE ?_
   simp only [go_sem, r_ref02_Add]
   rfl
 ·obtain ⟨e1, rfl, e3⟩ := okN_t ha
  cases hb : okN y u
  ·rw [e1, okN_f hb]
   repeat' (first | (with_reducible refine Cl_plain (f_ref02_is _ _ (by omega)) ?_) | (with_reducible refine Cl_plain (f_ref02_Nothing) ?_) | (simp only [go_sem, s_ref02_Add, *]) | (simp (disch := omega) only [s_ref02_Add, wrap_i64_of, i64_quo, i64_rem, sdiv, smod]) | ((with_reducible refine W_split (by with_unfolding_all exact rfl) (fun hsp => ?_) (fun hsp => ?_)) <;> (try simp only [Bool.not_true, Bool.not_false, decide_eq_true_eq, decide_eq_false_iff_not, Bool.not_eq_true', Bool.not_eq_false', not_false_eq_true] at hsp)) | ((with_reducible refine R_split (by with_unfolding_all exact rfl) (fun hsp => ?_) (fun hsp => ?_)) <;> (try simp only [Bool.not_true, Bool.not_false, decide_eq_true_eq, decide_eq_false_iff_not, Bool.not_eq_true', Bool.not_eq_false', not_false_eq_true] at hsp)) | (with_reducible refine rF ?_))
   all_goals
    refine wE ?_
    simp only [go_sem, r_ref02_Add]
    rfl
  ·obtain ⟨g1, rfl, g3⟩ := okN_t hb
   rw [e1, g1]
   have hm : (v.natAbs + u.natAbs) % 18446744073709551616 = v.natAbs + u.natAbs := by omega
   show W _ _ _ (SEnds _ _ (NO (tellM (v + u))) _) _ _ _ _
   have hsg : (decide (v < 0) == decide (u < 0)) = true → sgnM (v.natAbs + u.natAbs) (decide (v < 0)) = tellM (v + u) := by
    intro h
    simp only [beq_iff_eq, decide_eq_decide] at h
    exact sgn_tell (by split <;> (rename_i h; simp at h; omega))
   clear e1 g1
   cases hd : (decide (v < 0) == decide (u < 0))
   ·clear hsg
    have hr : -9223372036854775808 < v + u ∧ v + u < 9223372036854775808 := by
     by_cases h5 : v < 0 <;> by_cases h6 : u < 0 <;> simp [h5, h6] at hd <;> omega
    have ew : IntKind.i64.wrap (v + u) = v + u := wrap_i64_of (by omega) (by omega)
    rw [tell_in hr.1 hr.2]
    clear hr
    repeat' (first | (with_reducible refine Cl_plain (f_ref02_is _ _ (by omega)) ?_) | (simp only [go_sem, s_ref02_Add, hd, *]) | (simp (disch := omega) only [s_ref02_Add, hd, wrap_i64_of, i64_quo, i64_rem, sdiv, smod]) | ((with_reducible refine W_split (by with_unfolding_all exact rfl) (fun hsp => ?_) (fun hsp => ?_)) <;> (try simp only [Bool.not_true, Bool.not_false, decide_eq_true_eq, decide_eq_false_iff_not, Bool.not_eq_true', Bool.not_eq_false', not_false_eq_true] at hsp)) | ((with_reducible refine R_split (by with_unfolding_all exact rfl) (fun hsp => ?_) (fun hsp => ?_)) <;> (try simp only [Bool.not_true, Bool.not_false, decide_eq_true_eq, decide_eq_false_iff_not, Bool.not_eq_true', Bool.not_eq_false', not_false_eq_true] at hsp)) | (with_reducible refine rF ?_))
    refine wE ?_
    simp only [go_sem, r_ref02_Add]
    rfl
   ·rw [← hsg hd]
    clear hsg
    repeat' (first | (with_reducible refine Cl_plain (f_ref02_is _ _ (by omega)) ?_) | (with_reducible refine Cl_plain (f_ref02_size v h1 h2) ?_) | (with_reducible refine Cl_plain (f_ref02_size u h3 h4) ?_) | (with_reducible refine Cl_plain (f_ref02_signed _ _ (by omega)) ?_) | (simp only [go_sem, s_ref02_Add, hd, *]) | (simp (disch := omega) only [s_ref02_Add, hd, wrap_i64_of, i64_quo, i64_rem, sdiv, smod]) | ((with_reducible refine W_split (by with_unfolding_all exact rfl) (fun hsp => ?_) (fun hsp => ?_)) <;> (try simp only [Bool.not_true, Bool.not_false, decide_eq_true_eq, decide_eq_false_iff_not, Bool.not_eq_true', Bool.not_eq_false', not_false_eq_true] at hsp)) | ((with_reducible refine R_split (by with_unfolding_all exact rfl) (fun hsp => ?_) (fun hsp => ?_)) <;> (try simp only [Bool.not_true, Bool.not_false, decide_eq_true_eq, decide_eq_false_iff_not, Bool.not_eq_true', Bool.not_eq_false', not_false_eq_true] at hsp)) | (with_reducible refine rF ?_))
    refine wE ?_
    simp only [go_sem, r_ref02_Add]

theorem f_ref02_Div (x y : Bool) (v u : Int) (h1 : -9223372036854775808 ≤ v) (h2 : v < 9223372036854775808) (h3 : -9223372036854775808 ≤ u) (h4 : u < 9223372036854775808) : Meets Tryz.prog E0 n_ref02_Div [NV x v, NV y u] [] (NO (divM (valM x v) (valM y u))) [] := by
 refine st0 m_ref02_Div ?_
 cases ha : okN x v
 ·rw [okN_f ha]
  repeat' (first | (with_reducible refine Cl_plain (f_ref02_is _ _ (by omega)) ?_) | (with_reducible refine Cl_plain (f_ref02_Nothing) ?_) | (simp only [go_sem, s_ref02_Div, *]) | (simp (disch := omega) only [s_ref02_Div, wrap_i64_of, i64_quo, i64_rem, sdiv, smod]) | ((with_reducible refine W_split (by with_unfolding_all exact rfl) (fun hsp => ?_) (fun hsp => ?_)) <;> (try simp only [Bool.not_true, Bool.not_false, decide_eq_true_eq, decide_eq_false_iff_not, Bool.not_eq_true', Bool.not_eq_false', not_false_eq_true] at hsp)) | ((with_reducible refine R_split (by with_unfolding_all exact rfl) (fun hsp => ?_) (fun hsp => ?_)) <;> (try simp only [Bool.not_true, Bool.not_false, decide_eq_true_eq, decide_eq_false_iff_not, Bool.not_eq_true', Bool.not_eq_false', not_false_eq_true] at hsp)) | (with_reducible refine rF ?_))
  all_goals
   refine wE ?_
   simp only [go_sem, r_ref02_Div]
   rfl
 ·obtain ⟨e1, rfl, e3⟩ := okN_t ha
  cases hb : okN y u
  ·rw [e1, okN_f hb]
   repeat' (first | (with_reducible refine Cl_plain (f_ref02_is _ _ (by omega)) ?_) | (with_reducible refine Cl_plain (f_ref02_is _ _ (by omega)) ?_) | (with_reducible refine Cl_plain (f_ref02_Nothing) ?_) | (simp only [go_sem, s_ref02_Div, *]) | (simp (disch := omega) only [s_ref02_Div, wrap_i64_of, i64_quo, i64_rem, sdiv, smod]) | ((with_reducible refine W_split (by with_unfolding_all exact rfl) (fun hsp => ?_) (fun hsp => ?_)) <;> (try simp only [Bool.not_true, Bool.not_false, decide_eq_true_eq, decide_eq_false_iff_not, Bool.not_eq_true', Bool.not_eq_false', not_false_eq_true] at hsp)) | ((with_reducible refine R_split (by with_unfolding_all exact rfl) (fun hsp => ?_) (fun hsp => ?_)) <;> (try simp only [Bool.not_true, Bool.not_false, decide_eq_true_eq, decide_eq_false_iff_not, Bool.not_eq_true', Bool.not_eq_false', not_false_eq_true] at hsp)) | (with_reducible refine rF ?_))
   all_goals
    refine wE ?_
    simp only [go_sem, r_ref02_Div]
    rfl
  ·obtain ⟨g1, rfl, g3⟩ := okN_t hb
   rw [e1, g1]
   have hm : v.natAbs * 1000000 < 340282366920938463463374607431768211456 := by omega
   have hne : (neg v != neg u) = !(decide (v < 0) == decide (u < 0)) := rfl
   unfold divM
   simp only [hne]
   by_cases h0 : u = 0
   ·have q1 : quoM v.natAbs 1000000 u.natAbs (!(decide (v < 0) == decide (u < 0))) = none := if_pos (by omega)
    rw [q1]
    have e0 : decide (u = 0) = true := by simp [h0]
    repeat' (first | (with_reducible refine Cl_plain (f_ref02_is _ _ (by omega)) ?_) | (with_reducible refine Cl_plain (f_ref02_is _ _ (by omega)) ?_) | (with_reducible refine Cl_plain (f_ref02_Nothing) ?_) | (simp only [go_sem, s_ref02_Div, *]) | (simp (disch := omega) only [s_ref02_Div, wrap_i64_of, i64_quo, i64_rem, sdiv, smod]) | ((with_reducible refine W_split (by with_unfolding_all exact rfl) (fun hsp => ?_) (fun hsp => ?_)) <;> (try simp only [Bool.not_true, Bool.not_false, decide_eq_true_eq, decide_eq_false_iff_not, Bool.not_eq_true', Bool.not_eq_false', not_false_eq_true] at hsp)) | ((with_reducible refine R_split (by with_unfolding_all exact rfl) (fun hsp => ?_) (fun hsp => ?_)) <;> (try simp only [Bool.not_true, Bool.not_false, decide_eq_true_eq, decide_eq_false_iff_not, Bool.not_eq_true', Bool.not_eq_false', not_false_eq_true] at hsp)) | (with_reducible refine rF ?_))
    all_goals
     refine wE ?_
     simp only [go_sem, r_ref02_Div]
     rfl
   ·have h0' : ¬ u.natAbs = 0 := by omega
    by_cases h1' : 18446744073709551616 ≤ rnd (v.natAbs * 1000000) u.natAbs
    ·have q1 : quoM v.natAbs 1000000 u.natAbs (!(decide (v < 0) == decide (u < 0))) = none := by simp only [quoM]; rw [if_neg h0', sgnM, if_neg (by omega)]
     have q2 : roundE (v.natAbs * 1000000) u.natAbs = 3 := by simp only [roundE, if_neg h0', if_pos h1']
     rw [q1]
     repeat' (first | (with_reducible refine Cl_plain (f_ref02_is _ _ (by omega)) ?_) | (with_reducible refine Cl_plain (f_ref02_is _ _ (by omega)) ?_) | (with_reducible refine Cl_plain (f_ref02_size v h1 h2) ?_) | (with_reducible refine Cl_plain (f_ref02_size u h3 h4) ?_) | (with_reducible refine Cl_plain (f_ref01_Mul _ _ (by omega) (by omega)) ?_) | (with_reducible refine Cl_plain (f_ref01_Round _ _ hm (by omega)) ?_) | (with_reducible refine Cl_plain (f_ref02_Nothing) ?_) | (simp only [go_sem, s_ref02_Div, q2, *]) | (simp (disch := omega) only [s_ref02_Div, q2, wrap_i64_of, i64_quo, i64_rem, sdiv, smod]) | ((with_reducible refine W_split (by with_unfolding_all exact rfl) (fun hsp => ?_) (fun hsp => ?_)) <;> (try simp only [Bool.not_true, Bool.not_false, decide_eq_true_eq, decide_eq_false_iff_not, Bool.not_eq_true', Bool.not_eq_false', not_false_eq_true] at hsp)) | ((with_reducible refine R_split (by with_unfolding_all exact rfl) (fun hsp => ?_) (fun hsp => ?_)) <;> (try simp only [Bool.not_true, Bool.not_false, decide_eq_true_eq, decide_eq_false_iff_not, Bool.not_eq_true', Bool.not_eq_false', not_false_eq_true] at hsp)) | (with_reducible refine rF ?_))
     refine wE ?_
     simp only [go_sem, r_ref02_Div]
     rfl
    ·have q1 : quoM v.natAbs 1000000 u.natAbs (!(decide (v < 0) == decide (u < 0))) = sgnM (rnd (v.natAbs * 1000000) u.natAbs) (!(decide (v < 0) == decide (u < 0))) := by simp only [quoM]; rw [if_neg h0']
     have q2 : roundE (v.natAbs * 1000000) u.natAbs = 0 := by simp only [roundE, if_neg h0', if_neg h1']
     have q3 : roundV (v.natAbs * 1000000) u.natAbs = rnd (v.natAbs * 1000000) u.natAbs := by simp only [roundV, if_neg h0', if_neg h1']
     rw [q1]
     repeat' (first | (with_reducible refine Cl_plain (f_ref02_is _ _ (by omega)) ?_) | (with_reducible refine Cl_plain (f_ref02_is _ _ (by omega)) ?_) | (with_reducible refine Cl_plain (f_ref02_size v h1 h2) ?_) | (with_reducible refine Cl_plain (f_ref02_size u h3 h4) ?_) | (with_reducible refine Cl_plain (f_ref01_Mul _ _ (by omega) (by omega)) ?_) | (with_reducible refine Cl_plain (f_ref01_Round _ _ hm (by omega)) ?_) | (with_reducible refine Cl_plain (f_ref02_signed _ _ (by omega)) ?_) | (simp only [go_sem, s_ref02_Div, q2, q3, *]) | (simp (disch := omega) only [s_ref02_Div, q2, q3, wrap_i64_of, i64_quo, i64_rem, sdiv, smod]) | ((with_reducible refine W_split (by with_unfolding_all exact rfl) (fun hsp => ?_) (fun hsp => ?_)) <;> (try simp only [Bool.not_true, Bool.not_false, decide_eq_true_eq, decide_eq_false_iff_not, Bool.not_eq_true', Bool.not_eq_false', not_false_eq_true] at hsp)) | ((with_reducible refine R_split (by with_unfolding_all exact rfl) (fun hsp => ?_) (fun hsp => ?_)) <;> (try simp only [Bool.not_true, Bool.not_false, decide_eq_true_eq, decide_eq_false_iff_not, Bool.not_eq_true', Bool.not_eq_false', not_false_eq_true] at hsp)) | (with_reducible refine rF ?_))
     refine wE ?_
     simp only [go_sem, r_ref02_Div]

theorem f_ref02_Cmp (x y : Bool) (v u : Int) (h1 : -9223372036854775808 ≤ v) (h3 : -9223372036854775808 ≤ u) : Meets Tryz.prog E0 n_ref02_Cmp [NV x v, NV y u] [] (I (cmpM (valM x v) (valM y u))) [] := by
 refine st0 m_ref02_Cmp ?_
 cases ha : okN x v <;> cases hb : okN y u
 ·rw [okN_f ha, okN_f hb]
  repeat' (first | (with_reducible refine Cl_plain (f_ref02_is _ _ (by omega)) ?_) | (with_reducible refine Cl_plain (f_ref02_is _ _ (by omega)) ?_) | (simp only [go_sem, s_ref02_Cmp, *]) | (simp (disch := omega) only [s_ref02_Cmp, wrap_i64_of, i64_quo, i64_rem, sdiv, smod]) | ((with_reducible refine W_split (by with_unfolding_all exact rfl) (fun hsp => ?_) (fun hsp => ?_)) <;> (try simp only [Bool.not_true, Bool.not_false, decide_eq_true_eq, decide_eq_false_iff_not, Bool.not_eq_true', Bool.not_eq_false', not_false_eq_true] at hsp)) | ((with_reducible refine R_split (by with_unfolding_all exact rfl) (fun hsp => ?_) (fun hsp => ?_)) <;> (try simp only [Bool.not_true, Bool.not_false, decide_eq_true_eq, decide_eq_false_iff_not, Bool.not_eq_true', Bool.not_eq_false', not_false_eq_true] at hsp)) | (with_reducible refine rF ?_))
  all_goals
   refine wE ?_
   simp only [go_sem, r_ref02_Cmp]
   rfl
 ·rw [okN_f ha, (okN_t hb).1]
  repeat' (first | (with_reducible refine Cl_plain (f_ref02_is _ _ (by omega)) ?_) | (with_reducible refine Cl_plain (f_ref02_is _ _ (by omega)) ?_) | (simp only [go_sem, s_ref02_Cmp, *]) | (simp (disch := omega) only [s_ref02_Cmp, wrap_i64_of, i64_quo, i64_rem, sdiv, smod]) | ((with_reducible refine W_split (by with_unfolding_all exact rfl) (fun hsp => ?_) (fun hsp => ?_)) <;> (try simp only [Bool.not_true, Bool.not_false, decide_eq_true_eq, decide_eq_false_iff_not, Bool.not_eq_true', Bool.not_eq_false', not_false_eq_true] at hsp)) | ((with_reducible refine R_split (by with_unfolding_all exact rfl) (fun hsp => ?_) (fun hsp => ?_)) <;> (try simp only [Bool.not_true, Bool.not_false, decide_eq_true_eq, decide_eq_false_iff_not, Bool.not_eq_true', Bool.not_eq_false', not_false_eq_true] at hsp)) | (with_reducible refine rF ?_))
  all_goals
   refine wE ?_
   simp only [go_sem, r_ref02_Cmp]
   rfl
 ·rw [(okN_t ha).1, okN_f hb]
  repeat' (first | (with_reducible refine Cl_plain (f_ref02_is _ _ (by omega)) ?_) | (with_reducible refine Cl_plain (f_ref02_is _ _ (by omega)) ?_) | (simp only [go_sem, s_ref02_Cmp, *]) | (simp (disch := omega) only [s_ref02_Cmp, wrap_i64_of, i64_quo, i64_rem, sdiv, smod]) | ((with_reducible refine W_split (by with_unfolding_all exact rfl) (fun hsp => ?_) (fun hsp => ?_)) <;> (try simp only [Bool.not_true, Bool.not_false, decide_eq_true_eq, decide_eq_false_iff_not, Bool.not_eq_true', Bool.not_eq_false', not_false_eq_true] at hsp)) | ((with_reducible refine R_split (by with_unfolding_all exact rfl) (fun hsp => ?_) (fun hsp => ?_)) <;> (try simp only [Bool.not_true, Bool.not_false, decide_eq_true_eq, decide_eq_false_iff_not, Bool.not_eq_true', Bool.not_eq_false', not_false_eq_true] at hsp)) | (with_reducible refine rF ?_))
  all_goals
   refine wE ?_
   simp only [go_sem, r_ref02_Cmp]
   rfl
 ·rw [(okN_t ha).1, (okN_t hb).1]
  unfold cmpM
  simp only
  repeat' (first | (with_reducible refine Cl_plain (f_ref02_is _ _ (by omega)) ?_) | (with_reducible refine Cl_plain (f_ref02_is _ _ (by omega)) ?_) | (simp only [go_sem, s_ref02_Cmp, *]) | (simp (disch := omega) only [s_ref02_Cmp, wrap_i64_of, i64_quo, i64_rem, sdiv, smod]) | ((with_reducible refine W_split (by with_unfolding_all exact rfl) (fun hsp => ?_) (fun hsp => ?_)) <;> (try simp only [Bool.not_true, Bool.not_false, decide_eq_true_eq, decide_eq_false_iff_not, Bool.not_eq_true', Bool.not_eq_false', not_false_eq_true] at hsp)) | ((with_reducible refine R_split (by with_unfolding_all exact rfl) (fun hsp => ?_) (fun hsp => ?_)) <;> (try simp only [Bool.not_true, Bool.not_false, decide_eq_true_eq, decide_eq_false_iff_not, Bool.not_eq_true', Bool.not_eq_false', not_false_eq_true] at hsp)) | (with_reducible refine rF ?_))
  all_goals
   refine wE ?_
   simp only [go_sem, r_ref02_Cmp, *]

theorem f_ref02_Less (x y : Bool) (v u : Int) (h1 : -9223372036854775808 ≤ v) (h3 : -9223372036854775808 ≤ u) : Meets Tryz.prog E0 n_ref02_Less [NV x v, NV y u] [] (NO (lessM (valM x v) (valM y u))) [] := by
 refine st0 m_ref02_Less ?_
 cases ha : okN x v <;> cases hb : okN y u
 ·rw [okN_f ha, okN_f hb]
  repeat' (first | (with_reducible refine Cl_plain (f_ref02_is _ _ (by omega)) ?_) | (with_reducible refine Cl_plain (f_ref02_is _ _ (by omega)) ?_) | (with_reducible refine Cl_plain (f_ref02_Nothing) ?_) | (simp only [go_sem, s_ref02_Less, *]) | (simp (disch := omega) only [s_ref02_Less, wrap_i64_of, i64_quo, i64_rem, sdiv, smod]) | ((with_reducible refine W_split (by with_unfolding_all exact rfl) (fun hsp => ?_) (fun hsp => ?_)) <;> (try simp only [Bool.not_true, Bool.not_false, decide_eq_true_eq, decide_eq_false_iff_not, Bool.not_eq_true', Bool.not_eq_false', not_false_eq_true] at hsp)) | ((with_reducible refine R_split (by with_unfolding_all exact rfl) (fun hsp => ?_) (fun hsp => ?_)) <;> (try simp only [Bool.not_true, Bool.not_false, decide_eq_true_eq, decide_eq_false_iff_not, Bool.not_eq_true', Bool.not_eq_false', not_false_eq_true] at hsp)) | (with_reducible refine rF ?_))
  all_goals
   refine wE ?_
   simp only [go_sem, r_ref02_Less]
   rfl
 ·obtain ⟨g1, rfl, g3⟩ := okN_t hb
  rw [okN_f ha, g1]
  repeat' (first | (with_reducible refine Cl_plain (f_ref02_is _ _ (by omega)) ?_) | (with_reducible refine Cl_plain (f_ref02_is _ _ (by omega)) ?_) | (simp only [go_sem, s_ref02_Less, *]) | (simp (disch := omega) only [s_ref02_Less, wrap_i64_of, i64_quo, i64_rem, sdiv, smod]) | ((with_reducible refine W_split (by with_unfolding_all exact rfl) (fun hsp => ?_) (fun hsp => ?_)) <;> (try simp only [Bool.not_true, Bool.not_false, decide_eq_true_eq, decide_eq_false_iff_not, Bool.not_eq_true', Bool.not_eq_false', not_false_eq_true] at hsp)) | ((with_reducible refine R_split (by with_unfolding_all exact rfl) (fun hsp => ?_) (fun hsp => ?_)) <;> (try simp only [Bool.not_true, Bool.not_false, decide_eq_true_eq, decide_eq_false_iff_not, Bool.not_eq_true', Bool.not_eq_false', not_false_eq_true] at hsp)) | (with_reducible refine rF ?_))
  all_goals
   refine wE ?_
   simp only [go_sem, r_ref02_Less]
   rfl
 ·obtain ⟨g1, rfl, g3⟩ := okN_t ha
  rw [g1, okN_f hb]
  repeat' (first | (with_reducible refine Cl_plain (f_ref02_is _ _ (by omega)) ?_) | (with_reducible refine Cl_plain (f_ref02_is _ _ (by omega)) ?_) | (simp only [go_sem, s_ref02_Less, *]) | (simp (disch := omega) only [s_ref02_Less, wrap_i64_of, i64_quo, i64_rem, sdiv, smod]) | ((with_reducible refine W_split (by with_unfolding_all exact rfl) (fun hsp => ?_) (fun hsp => ?_)) <;> (try simp only [Bool.not_true, Bool.not_false, decide_eq_true_eq, decide_eq_false_iff_not, Bool.not_eq_true', Bool.not_eq_false', not_false_eq_true] at hsp)) | ((with_reducible refine R_split (by with_unfolding_all exact rfl) (fun hsp => ?_) (fun hsp => ?_)) <;> (try simp only [Bool.not_true, Bool.not_false, decide_eq_true_eq, decide_eq_false_iff_not, Bool.not_eq_true', Bool.not_eq_false', not_false_eq_true] at hsp)) | (with_reducible refine rF ?_))
  all_goals
   refine wE ?_
   simp only [go_sem, r_ref02_Less]
   rfl
 ·obtain ⟨g1, rfl, g3⟩ := okN_t ha
  obtain ⟨e1, rfl, e3⟩ := okN_t hb
  rw [e1, g1]
  unfold lessM
  simp only
  repeat' (first | (with_reducible refine Cl_plain (f_ref02_is _ _ (by omega)) ?_) | (with_reducible refine Cl_plain (f_ref02_is _ _ (by omega)) ?_) | (simp only [go_sem, s_ref02_Less, *]) | (simp (disch := omega) only [s_ref02_Less, wrap_i64_of, i64_quo, i64_rem, sdiv, smod]) | ((with_reducible refine W_split (by with_unfolding_all exact rfl) (fun hsp => ?_) (fun hsp => ?_)) <;> (try simp only [Bool.not_true, Bool.not_false, decide_eq_true_eq, decide_eq_false_iff_not, Bool.not_eq_true', Bool.not_eq_false', not_false_eq_true] at hsp)) | ((with_reducible refine R_split (by with_unfolding_all exact rfl) (fun hsp => ?_) (fun hsp => ?_)) <;> (try simp only [Bool.not_true, Bool.not_false, decide_eq_true_eq, decide_eq_false_iff_not, Bool.not_eq_true', Bool.not_eq_false', not_false_eq_true] at hsp)) | (with_reducible refine rF ?_))
  all_goals
   refine wE ?_
   simp only [go_sem, r_ref02_Less, *]
   rfl

theorem f_ref02_More (x y : Bool) (v u : Int) (h1 : -9223372036854775808 ≤ v) (h3 : -9223372036854775808 ≤ u) : Meets Tryz.prog E0 n_ref02_More [NV x v, NV y u] [] (NO (moreM (valM x v) (valM y u))) [] := by
 refine st0 m_ref02_More ?_
 cases ha : okN x v <;> cases hb : okN y u
 ·rw [okN_f ha, okN_f hb]
  repeat' (first | (with_reducible refine Cl_plain (f_ref02_is _ _ (by omega)) ?_) | (with_reducible refine Cl_plain (f_ref02_is _ _ (by omega)) ?_) | (with_reducible refine Cl_plain (f_ref02_Nothing) ?_) | (simp only [go_sem, s_ref02_More, *]) | (simp (disch := omega) only [s_ref02_More, wrap_i64_of, i64_quo, i64_rem, sdiv, smod]) | ((with_reducible refine W_split (by with_unfolding_all exact rfl) (fun hsp => ?_) (fun hsp => ?_)) <;> (try simp only [Bool.not_true, Bool.not_false, decide_eq_true_eq, decide_eq_false_iff_not, Bool.not_eq_true', Bool.not_eq_false', not_false_eq_true] at hsp)) | ((with_reducible refine R_split (by with_unfolding_all exact rfl) (fun hsp => ?_) (fun hsp => ?_)) <;> (try simp only [Bool.not_true, Bool.not_false, decide_eq_true_eq, decide_eq_false_iff_not, Bool.not_eq_true', Bool.not_eq_false', not_false_eq_true] at hsp)) | (with_reducible refine rF ?_))
  all_goals
   refine wE ?_
   simp only [go_sem, r_ref02_More]
   rfl
 ·obtain ⟨g1, rfl, g3⟩ := okN_t hb
  rw [okN_f ha, g1]
  repeat' (first | (with_reducible refine Cl_plain (f_ref02_is _ _ (by omega)) ?_) | (with_reducible refine Cl_plain (f_ref02_is _ _ (by omega)) ?_) | (simp only [go_sem, s_ref02_More, *]) | (simp (disch := omega) only [s_ref02_More, wrap_i64_of, i64_quo, i64_rem, sdiv, smod]) | ((with_reducible refine W_split (by with_unfolding_all exact rfl) (fun hsp => ?_) (fun hsp => ?_)) <;> (try simp only [Bool.not_true, Bool.not_false, decide_eq_true_eq, decide_eq_false_iff_not, Bool.not_eq_true', Bool.not_eq_false', not_false_eq_true] at hsp)) | ((with_reducible refine R_split (by with_unfolding_all exact rfl) (fun hsp => ?_) (fun hsp => ?_)) <;> (try simp only [Bool.not_true, Bool.not_false, decide_eq_true_eq, decide_eq_false_iff_not, Bool.not_eq_true', Bool.not_eq_false', not_false_eq_true] at hsp)) | (with_reducible refine rF ?_))
  all_goals
   refine wE ?_
   simp only [go_sem, r_ref02_More]
   rfl
 ·obtain ⟨g1, rfl, g3⟩ := okN_t ha
  rw [g1, okN_f hb]
  repeat' (first | (with_reducible refine Cl_plain (f_ref02_is _ _ (by omega)) ?_) | (with_reducible refine Cl_plain (f_ref02_is _ _ (by omega)) ?_) | (simp only [go_sem, s_ref02_More, *]) | (simp (disch := omega) only [s_ref02_More, wrap_i64_of, i64_quo, i64_rem, sdiv, smod]) | ((with_reducible refine W_split (by with_unfolding_all exact rfl) (fun hsp => ?_) (fun hsp => ?_)) <;> (try simp only [Bool.not_true, Bool.not_false, decide_eq_true_eq, decide_eq_false_iff_not, Bool.not_eq_true', Bool.not_eq_false', not_false_eq_true] at hsp)) | ((with_reducible refine R_split (by with_unfolding_all exact rfl) (fun hsp => ?_) (fun hsp => ?_)) <;> (try simp only [Bool.not_true, Bool.not_false, decide_eq_true_eq, decide_eq_false_iff_not, Bool.not_eq_true', Bool.not_eq_false', not_false_eq_true] at hsp)) | (with_reducible refine rF ?_))
  all_goals
   refine wE ?_
   simp only [go_sem, r_ref02_More]
   rfl
 ·obtain ⟨g1, rfl, g3⟩ := okN_t ha
  obtain ⟨e1, rfl, e3⟩ := okN_t hb
  rw [e1, g1]
  unfold moreM
  simp only
  repeat' (first | (with_reducible refine Cl_plain (f_ref02_is _ _ (by omega)) ?_) | (with_reducible refine Cl_plain (f_ref02_is _ _ (by omega)) ?_) | (simp only [go_sem, s_ref02_More, *]) | (simp (disch := omega) only [s_ref02_More, wrap_i64_of, i64_quo, i64_rem, sdiv, smod]) | ((with_reducible refine W_split (by with_unfolding_all exact rfl) (fun hsp => ?_) (fun hsp => ?_)) <;> (try simp only [Bool.not_true, Bool.not_false, decide_eq_true_eq, decide_eq_false_iff_not, Bool.not_eq_true', Bool.not_eq_false', not_false_eq_true] at hsp)) | ((with_reducible refine R_split (by with_unfolding_all exact rfl) (fun hsp => ?_) (fun hsp => ?_)) <;> (try simp only [Bool.not_true, Bool.not_false, decide_eq_true_eq, decide_eq_false_iff_not, Bool.not_eq_true', Bool.not_eq_false', not_false_eq_true] at hsp)) | (with_reducible refine rF ?_))
  all_goals
   refine wE ?_
   simp only [go_sem, r_ref02_More, *]
   rfl

end Go.Proofs.YtgmpceijcdimkaaGreatDoor
namespace Go.Proofs.YtgmpceijcdimkaaGreatDoor
open Go Go.Sx
/-- A number, or nothing. -/
abbrev Num := Bool × Int
def numT (n : Num) : List T := [.v (.bool n.1), .v (.int .i64 n.2)]
abbrev numL (l : List Num) : AV := .t (.sl 2 (l.map numT))

end Go.Proofs.YtgmpceijcdimkaaGreatDoor
namespace Go.Proofs.YtgmpceijcdimkaaGreatDoor
open Go Go.Sx

theorem f_ref02_Same (a b : List Num) (hl : a.length ≤ maxLen) : Meets Tryz.prog E0 n_ref02_Same [numL a, numL b] [] (Bo (decide (a = b))) [] := by
 refine st0 m_ref02_Same ?_
 unfold maxLen at hl
 simp only [go_sem, s_ref02_Same]
 refine W_split rfl (fun h => ?_) (fun h => ?_)
 ·simp at h
  simp only [go_sem]
  refine wE ?_
  simp only [go_sem, r_ref02_Same]
  have : ¬ a = b := fun e => h (by rw [e])
  simp [this]
 ·simp at h
  simp only [go_sem]
  refine W_loop (fun i : Nat => a.length - i) (fun i => i ≤ a.length ∧ (a = b ↔ a.drop i = b.drop i))
   (fun i => [(0, numL a), (1, numL b), (5, I i)]) (fun i => []) 0 (by simp) ?_ ?_
  ·exact sR0
  ·rintro i ⟨hi, hr⟩
   simp only [go_sem]
   refine W_split rfl (fun h1 => ?_) (fun h1 => ?_)
   ·simp at h1
    obtain ⟨x, hx⟩ := get_of_lt h1
    obtain ⟨y, hy⟩ := get_of_lt (show i < b.length by omega)
    rw [drop_get hx, drop_get hy] at hr
    have ei : IntKind.i64.wrap ((i : Int) + 1) = ((i + 1 : Nat) : Int) := by rw [wrap_i64_of (by omega) (by omega)]; omega
    simp only [go_sem, hx, hy, numT]
    refine W_split rfl (fun h2 => ?_) (fun h2 => ?_)
    ·simp only [go_sem]
     refine wE ?_
     simp only [go_sem, r_ref02_Same]
     have : ¬ a = b := by
      rw [hr]; intro e
      injection e with e1 e2
      subst e1; simp at h2
     simp [this]
    ·simp at h2
     simp only [go_sem, ei]
     refine rd_of (i + 1) (by first | omega | (simp only; omega)) ⟨by first | omega | (simp only; omega), by rw [hr]; simp [Prod.ext_iff, h2]⟩ ?_
     exact sR0
   ·simp at h1
    simp only [go_sem]
    refine wE ?_
    simp only [go_sem, r_ref02_Same]
    have e : i = a.length := by omega
    subst e
    have : a = b := hr.2 (by rw [List.drop_eq_nil_of_le (Nat.le_refl _), List.drop_eq_nil_of_le (by omega)])
    simp [this]

end Go.Proofs.YtgmpceijcdimkaaGreatDoor
namespace Go.Proofs.YtgmpceijcdimkaaGreatDoor
open Go Go.Sx

abbrev Ser := List UInt8 × Int × Int × List Num
def seT (s : Ser) : List T := [.v (.string (toB s.1)), .v (.int .i64 s.2.1), .v (.int .i64 s.2.2.1), .sl 2 (s.2.2.2.map numT)]

/-- A number's cells can be. -/
def inN (n : Num) : Prop := -9223372036854775808 ≤ n.2 ∧ n.2 < 9223372036854775808
def inS (s : Ser) : Prop := ∀ n ∈ s.2.2.2, inN n

/-- The values that count. -/
def kvM (l : List Num) : List Int := (l.filter fun n => okN n.1 n.2).map (·.2)

theorem kv_in {l : List Num} (h : ∀ n ∈ l, inN n) : ∀ x ∈ kvM l, -9223372036854775808 < x ∧ x < 9223372036854775808 := by
 intro x hx
 unfold kvM at hx
 obtain ⟨n, hn, rfl⟩ := List.mem_map.1 hx
 obtain ⟨h1, h2⟩ := List.mem_filter.1 hn
 have := (okN_t h2).2.2
 exact ⟨this, (h n h1).2⟩

def foldO (two : Option Int → Option Int → Option Int) (a : Option Int) (k : List Int) : Option Int := k.foldl (fun a y => two a (some y)) a
def gatM (two : Option Int → Option Int → Option Int) : List Int → Option Int
 | [] => none
 | x :: l => foldO two (some x) l

/-- What values make. -/
def reckK (w : Int) (k : List Int) : Option Int :=
 if k = [] then none else if w = 1 then divM (gatM addM k) (tellM ((k.length : Int) * 1000000)) else if w = 2 then gatM addM k else if w = 3 then gatM lessM k else if w = 4 then gatM moreM k else if w = 5 then k.getLast? else none
def reckM (w : Int) (l : List Num) : Option Int := reckK w (kvM l)

theorem rt_some {z : Int} (h : -9223372036854775808 < z ∧ z < 9223372036854775808) : Rt (some z) := fun y hy => by injection hy with hy; subst hy; exact h
theorem rt_none : Rt none := fun y hy => by cases hy
theorem rt_tell (z : Int) : Rt (tellM z) := fun _ h => tell_range h

theorem rt_add (a b : Option Int) : Rt (addM a b) := by
 unfold addM
 split
 ·exact rt_tell _
 ·exact rt_none
theorem rt_less {a b : Option Int} (ha : Rt a) (hb : Rt b) : Rt (lessM a b) := by
 unfold lessM
 split
 ·split
  ·exact ha
  ·exact hb
 ·exact ha
 ·exact hb
theorem rt_more {a b : Option Int} (ha : Rt a) (hb : Rt b) : Rt (moreM a b) := by
 unfold moreM
 split
 ·split
  ·exact ha
  ·exact hb
 ·exact ha
 ·exact hb

theorem rt_fold {two : Option Int → Option Int → Option Int} (h2 : ∀ a b, Rt a → Rt b → Rt (two a b)) : ∀ (k : List Int) (a : Option Int), Rt a → (∀ x ∈ k, -9223372036854775808 < x ∧ x < 9223372036854775808) → Rt (foldO two a k)
 | [], a, ha, _ => ha
 | x :: k, a, ha, hk => rt_fold h2 k (two a (some x)) (h2 _ _ ha (rt_some (hk x (by simp)))) (fun y hy => hk y (by simp [hy]))

theorem fold_add {x : Int} (h : -9223372036854775808 < x ∧ x < 9223372036854775808) (k : List Int) : foldO addM (some 0) (x :: k) = gatM addM (x :: k) := by
 show foldO addM (addM (some 0) (some x)) k = foldO addM (some x) k
 have : addM (some 0) (some x) = some x := by
  show tellM (0 + x) = some x
  rw [Int.zero_add]; exact tell_in h.1 h.2
 rw [this]
theorem fold_less (x : Int) (k : List Int) : foldO lessM (some x) (x :: k) = gatM lessM (x :: k) := by
 show foldO lessM (lessM (some x) (some x)) k = foldO lessM (some x) k
 have : lessM (some x) (some x) = some x := by simp [lessM]
 rw [this]
theorem fold_more (x : Int) (k : List Int) : foldO moreM (some x) (x :: k) = gatM moreM (x :: k) := by
 show foldO moreM (moreM (some x) (some x)) k = foldO moreM (some x) k
 have : moreM (some x) (some x) = some x := by simp [moreM]
 rw [this]

theorem rt_gat {two : Option Int → Option Int → Option Int} (h2 : ∀ a b, Rt a → Rt b → Rt (two a b)) : ∀ (k : List Int), (∀ x ∈ k, -9223372036854775808 < x ∧ x < 9223372036854775808) → Rt (gatM two k)
 | [], _ => rt_none
 | x :: k, h => rt_fold h2 k (some x) (rt_some (h x (by simp))) (fun y hy => h y (by simp [hy]))

theorem fold_snoc (two : Option Int → Option Int → Option Int) (a : Option Int) (k : List Int) (x : Int) : foldO two a (k ++ [x]) = two (foldO two a k) (some x) := by
 unfold foldO; rw [List.foldl_append]; rfl

@[simp] theorem ids_mapt (l : List T) : idsL (l.map AV.t) = [] := by
 induction l with
 | nil => rfl
 | cons x l ih => simp only [List.map_cons, idsL, AV.ids, ih]; rfl
@[simp] theorem wkL_mapt (s : Nat → Option Ob) (sn : List Nat) (π : Nat → Nat) (l : List T) : wkL s sn π (l.map AV.t) (l.map AV.t) := by
 induction l with
 | nil => simp only [List.map_nil, wkL]
 | cons x l ih =>
  simp only [List.map_cons, wkL]
  refine ⟨?_, ih⟩
  cases x <;> simp [wkV]
@[simp] theorem one_mapt (l : List T) : (l.map AV.t).all AV.one = true := by
 rw [List.all_map, List.all_eq_true]; intro x _; rfl

end Go.Proofs.YtgmpceijcdimkaaGreatDoor
