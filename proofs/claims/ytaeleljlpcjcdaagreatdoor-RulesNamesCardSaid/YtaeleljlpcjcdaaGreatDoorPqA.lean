/- Texts of mine, many in one. No statement of the seat is proved here. -/
import Derived.Test.YtaeleljlpcjcdaaGreatDoorSlim
import Derived.Test.YtaeleljlpcjcdaaGreatDoorShelf
import Derived.Test.YtaeleljlpcjcdaaGreatDoorSxH
import Derived.Lib.Bytealg
import Derived.Lib.IndexBytes
import Derived.Shelf.Strings.Search3
import Derived.RangeFuncSeq
import Derived.WalkKit
import Derived.OwnWalkIn
import Derived.TacticsInMore
import Derived.LoopNIn
import Derived.LoopIn
import Derived.Shelf.Small.Strs
import Derived.Shelf.Strings.Trim
import Derived.Shelf.Strings.SlTrimAscii
import Derived.Shelf.Strconv.ParseIntPublic10
set_option linter.unusedSimpArgs false
set_option linter.unusedVariables false
namespace Go.Proofs.YtaeleljlpcjcdaaGreatDoor
open Go Go.Sx

/-- The world has only grown. -/
structure Grown (E : Env) (w w' : World) : Prop where
  os : w'.os = w.os
  tape : w'.tape = w.tape
  output : w'.output = w.output
  drawn : E.cnt → w.drawn ≤ w'.drawn
  size : w.heap.size ≤ w'.heap.size
  block : ∀ b, b < w.heap.size → w'.heap[b]? = w.heap[b]?

theorem Grown.refl {E : Env} (w : World) : Grown E w w := ⟨rfl, rfl, rfl, fun _ => Nat.le_refl _, Nat.le_refl _, fun _ _ => rfl⟩

theorem cas_plain {A : Nat → Prop} {φ : Nat → Nat} {w : World} : ∀ {vals ys : List Value}, CAs A φ w (vals.map fun x => .t (.v x)) ys → ys = vals
  | [], ys, h => by simpa [CAs] using h
  | x :: l, ys, h => by
    simp only [List.map_cons, CAs, CA, CT] at h
    obtain ⟨z, zs, rfl, ⟨rfl, _⟩, h⟩ := h
    rw [cas_plain h]

theorem ids_plain (vals : List Value) : idsL (vals.map fun x => .t (.v x)) = [] := by
  induction vals with
  | nil => rfl
  | cons x l ih => simp only [List.map_cons, idsL, AV.ids, ih]; rfl

theorem meets_lib2 {P : Program} {E : Env} {f : FuncId} {av : List AV} {v : Value} {r : AV} (ha : idsL av = []) (he : ∀ args w, (callFunc f args).run P w = .ok (.enter f args) w) (hr : ∀ A φ w, CA A φ w r v) (hi : r.ids = [])
    (h : ∀ (A : Nat → Prop) φ w (args : Array Value), E.gi w → (∀ b, A b → b < w.heap.size) → CAs A φ w av args.toList → Calls P f args w fun e w' => e = .returned v ∧ Grown E w w') : Meets P E f av [] r [] where
  shutIn := shut0 ha
  shutOut := shut0 (by simp [idsL, hi])
  stay := by simp [keysOf]
  runs := fun A φ w args gi gA alt hH hargs => by
    refine Or.inl ⟨he _ _, (h A φ w args gi alt hargs).mono ?_⟩
    rintro e w' ⟨rfl, hg⟩
    refine ⟨v, rfl, A, φ, ?_⟩
    exact {
      go := ⟨fun b hb => ⟨hb, hg.block b (alt b hb)⟩, fun b n hb => by
        have hlt : b < w.heap.size := by obtain ⟨cs, e, h1, _⟩ := hb; exact heap_lt h1
        exact RowCap.of_heap (hg.block b hlt) hb⟩
      agree := by simp [keysOf]
      holds := ⟨fun id o ho => by simp [stoOf] at ho, fun id o ho => by simp [stoOf] at ho, fun i j hi => by simp [keysOf] at hi⟩
      fresh := by simp [keysOf]
      ca := hr _ _ _
      anew := fun b hb => Or.inl hb
      alt := fun b hb => Nat.lt_of_lt_of_le (alt b hb) hg.size
      old := fun b hb _ => hg.block b hb
      os := hg.os
      tape := hg.tape
      output := hg.output
      drawn := hg.drawn
      size := hg.size }

theorem meets_lib {P : Program} {E : Env} {f : FuncId} {vals : List Value} {v : Value} {r : AV} (he : ∀ args w, (callFunc f args).run P w = .ok (.enter f args) w) (hr : ∀ A φ w, CA A φ w r v) (hi : r.ids = [])
    (h : ∀ w, E.gi w → Calls P f vals.toArray w fun e w' => e = .returned v ∧ Grown E w w') : Meets P E f (vals.map fun x => .t (.v x)) [] r [] :=
  meets_lib2 (ids_plain vals) he hr hi fun A φ w args gi alt hargs => by
    have e : args = vals.toArray := by rw [← cas_plain hargs]
    subst e
    exact h w gi

end Go.Proofs.YtaeleljlpcjcdaaGreatDoor
namespace Go.Proofs.YtaeleljlpcjcdaaGreatDoor
open Go Go.Sx

theorem ba_get (s : ByteArray) (i : Nat) : s[i]? = s.data.toList[i]? := by
  by_cases h : i < s.size
  · rw [getElem?_pos s i h]
    have h2 : i < s.data.toList.length := by simpa using h
    rw [List.getElem?_eq_getElem h2]
    rfl
  · rw [getElem?_neg s i h, List.getElem?_eq_none (by simpa using h)]

theorem ba_len (s : ByteArray) : s.data.toList.length = s.size := by simp

/-- What is left of a text. -/
def Suf (s : ByteArray) (rest : List UInt8) : Prop := rest <:+ s.data.toList

theorem Suf.len {s : ByteArray} {rest : List UInt8} (h : Suf s rest) : rest.length ≤ s.size := by
  have := h.length_le; rwa [ba_len] at this

theorem Suf.all (s : ByteArray) : Suf s s.data.toList := List.suffix_refl _

theorem Suf.tail {s : ByteArray} {c : UInt8} {rest : List UInt8} (h : Suf s (c :: rest)) : Suf s rest := (List.suffix_cons c rest).trans h

theorem Suf.get {s : ByteArray} {rest : List UInt8} (h : Suf s rest) (k : Nat) : s[s.size - rest.length + k]? = rest[k]? := by
  obtain ⟨pre, hp⟩ := h
  have hl : pre.length + rest.length = s.size := by rw [← ba_len, ← hp]; simp
  rw [ba_get, ← hp, List.getElem?_append_right (by omega)]
  congr 1; omega

theorem u8_lt (c : UInt8) : c.toNat < 256 := UInt8.toNat_lt c

theorem get_of_lt {α : Type} {l : List α} {i : Nat} (h : i < l.length) : ∃ s, l[i]? = some s := ⟨l[i], List.getElem?_eq_getElem h⟩

theorem drop_get {α : Type} {l : List α} {i : Nat} {s : α} (h : l[i]? = some s) : l.drop i = s :: l.drop (i + 1) := by
  obtain ⟨hi, rfl⟩ := List.getElem?_eq_some_iff.1 h
  exact List.drop_eq_getElem_cons hi

end Go.Proofs.YtaeleljlpcjcdaaGreatDoor
namespace Go.Proofs.YtaeleljlpcjcdaaGreatDoor
open Go Go.Sx

/-- A text's parts. -/
def partsB (c : UInt8) : List UInt8 → List (List UInt8)
  | [] => [[]]
  | b :: l => if b = c then [] :: partsB c l else match partsB c l with
    | [] => [[b]]
    | p :: ps => (b :: p) :: ps

theorem bytes_ext {a b : ByteArray} (h : a.data.toList = b.data.toList) : a = b := by
  cases a; cases b; simp only [Array.toList_inj] at h; rw [h]
theorem take_bytes (r : ByteArray) (n : Nat) : (⟨(r.data.toList.take n).toArray⟩ : ByteArray).data.toList = (r.extract 0 n).data.toList := by
  simp [ByteArray.extract, ByteArray.copySlice]

theorem partsB_ne (c : UInt8) (l : List UInt8) : partsB c l ≠ [] := by
  cases l with
  | nil => simp [partsB]
  | cons b l =>
    simp only [partsB]
    split
    · simp
    · split <;> simp

theorem partsB_at (c : UInt8) : ∀ l : List UInt8, (Lib.indexByte l c < 0 → partsB c l = [l]) ∧ (0 ≤ Lib.indexByte l c → (Lib.indexByte l c).toNat < l.length ∧ partsB c l = l.take (Lib.indexByte l c).toNat :: partsB c (l.drop ((Lib.indexByte l c).toNat + 1)))
  | [] => by simp [Lib.indexByte, partsB]
  | b :: l => by
    have ih := partsB_at c l
    have hge := Lib.indexByte_ge l c
    simp only [Lib.indexByte, partsB]
    by_cases hb : b = c
    · subst hb; simp
    · have hb' : (b == c) = false := by simpa using hb
      simp only [hb', hb, if_false, Bool.false_eq_true]
      by_cases hi : Lib.indexByte l c = -1
      · have h1 := ih.1 (by omega)
        simp [hi, h1]
      · have hi' : (Lib.indexByte l c == -1) = false := by simpa using hi
        have h0 : 0 ≤ Lib.indexByte l c := by omega
        obtain ⟨h2, h3⟩ := ih.2 h0
        simp only [hi', if_false, Bool.false_eq_true]
        have e : (Lib.indexByte l c + 1).toNat = (Lib.indexByte l c).toNat + 1 := by omega
        refine ⟨fun h => by omega, fun _ => ⟨by rw [e]; simp; omega, ?_⟩⟩
        rw [e, h3]
        simp

theorem parts_sum (c : UInt8) : ∀ l : List UInt8, (partsB c l).length ≤ l.length + 1 ∧ ∀ p ∈ partsB c l, p.length ≤ l.length
  | [] => by simp [partsB]
  | b :: l => by
    have ih := parts_sum c l
    simp only [partsB]
    by_cases hb : b = c
    · rw [if_pos hb]
      refine ⟨by simp; omega, fun p hp => ?_⟩
      rcases List.mem_cons.1 hp with rfl | hp
      · simp
      · have := ih.2 p hp; simp; omega
    · rw [if_neg hb]
      generalize partsB c l = ps at *
      cases ps with
      | nil => simp
      | cons q ps =>
        simp only [List.length_cons] at ih ⊢
        refine ⟨by omega, fun p hp => ?_⟩
        rcases List.mem_cons.1 hp with rfl | hp
        · have := ih.2 q (by simp); simp; omega
        · have := ih.2 p (by simp [hp]); omega

end Go.Proofs.YtaeleljlpcjcdaaGreatDoor
namespace Go.Proofs.YtaeleljlpcjcdaaGreatDoor
open Go Go.Sx Go.RowKit Go.Shelf

attribute [local go_sem] Oper.semAt_some

/-- What is left behind k parts. -/
noncomputable def leftOf (W : World) (b0 : Nat) : Nat := match W.cell? ⟨b0, 0, none⟩ with
  | some (.string r) => r.size
  | _ => 0

theorem round_wide {m m' : Nat} {P : Program} {l : Nat} {f : FuncId} {tmps : Array Value} {assign body : Code} {w : World} {R : Ending → World → Prop} (h : RoundIn Fence.wide m P l f tmps assign body w R) : RoundIn Fence.wide m' P l f tmps assign body w R :=
  ⟨trivial, fun c cs _ => h.2 c cs (room_wide _)⟩

set_option maxRecDepth 100000 in
set_option maxHeartbeats 1000000 in
theorem iter_parts (c : UInt8) (s : ByteArray) (hs0 : s.size < 4611686018427387904) : IterOk Tryz.prog 125 (.string s) (.string ⟨#[c]⟩) (.int .i64 0) ((partsB c s.data.toList).map fun l => .string ⟨l.toArray⟩) := by
  intro m l b0 b1 b2 J Stop s' W hs hcell hset hY h0
  injection hs with hs; subst hs
  refine callsIn_of_wp Tryz.func125 rfl trivial ?_ rfl
  simp only [Tryz.ntmps125, List.size_toArray, List.length_cons, List.length_nil, Nat.reduceAdd, Nat.reduceSub, Array.replicate_succ, Array.replicate_zero, List.push_toArray, List.append_toArray, List.nil_append, List.cons_append]
  obtain ⟨⟨hc0, hf0⟩, hc1, hc2⟩ := hcell 0 s W h0
  gi_wp2
  gi_loopw [] (fun wr => ∃ (k : Nat) (r : ByteArray), J k r wr ∧ (partsB c s.data.toList).drop k = partsB c r.data.toList ∧ r.size ≤ s.size) (fun wr => leftOf wr b0)
  case atStart =>
    exact ⟨0, s, h0, by simp, Nat.le_refl _⟩
  case round =>
    obtain ⟨k, r, hJ, hd, hsz⟩ := hrel
    obtain ⟨⟨hc0, hf0⟩, hc1, hc2⟩ := hcell k r _ hJ
    have hix : ∀ w, Calls Tryz.prog 127 #[.string r, .string ⟨#[c]⟩] w fun e w' => e = .returned (.int .i64 (Lib.indexByte r.data.toList c)) ∧ w' = w := fun w => Go.Proofs.Any.strings_Index_one Go.Proofs.Tryz.laysIndex r c w
    obtain ⟨i, hi⟩ : ∃ i, Lib.indexByte r.data.toList c = i := ⟨_, rfl⟩
    rw [hi] at hix
    have hpa := partsB_at c r.data.toList
    rw [hi] at hpa
    have hlen : r.data.toList.length = r.size := (Lib.size_eq r).symm
    rw [hlen] at hpa
    have hxk : ∀ x, (partsB c r.data.toList)[0]? = some x → ((partsB c s.data.toList).map fun l => Value.string ⟨l.toArray⟩)[k]? = some (.string ⟨x.toArray⟩) := by
      intro x hx
      rw [← hd] at hx
      simp only [List.getElem?_drop, Nat.add_zero] at hx
      simp [hx]
    by_cases hneg : i < 0
    · have hpart := hpa.1 hneg
      have hkl : (partsB c s.data.toList).length = k + 1 := by
        have h1 := congrArg List.length hd
        rw [hpart] at h1
        simp at h1; omega
      obtain ⟨fn, tmps, assign, body, hy, hR⟩ := hY k r wr (.string r) hJ (hxk _ (by rw [hpart]; rfl))
      gi_wp2
      refine ⟨trivial, fun h => by simp [Fence.wide] at h, ?_⟩
      refine CallsIn.mono (callsIn_wide.2 (hix _)) ?_
      rintro e w' ⟨rfl, rfl⟩
      gi_wp2
      refine ⟨fun h => by simp [Fence.wide] at h, (round_wide hR).mono ?_⟩
      have hlast : ((partsB c s.data.toList).map fun l => Value.string ⟨l.toArray⟩).length = k + 1 := by simpa using hkl
      rintro e W3 (⟨rfl, hJ3⟩ | ⟨rfl, hS3⟩)
      · gi_wp2
        go_end0
        exact ⟨⟨_, rfl⟩, .inl ⟨r, by rw [hlast]; exact hJ3⟩⟩
      · gi_wp2
        go_end0
        exact ⟨⟨_, rfl⟩, .inr hS3⟩
    · have hpos : 0 ≤ i := by omega
      obtain ⟨hilt, hpart⟩ := hpa.2 hpos
      have hw : wrap64 i = i := by unfold wrap64; omega
      have hw1 : wrap64 (i + 1) = i + 1 := by unfold wrap64; omega
      obtain ⟨fn, tmps, assign, body, hy, hR⟩ := hY k r wr (.string (r.extract 0 i.toNat)) hJ (by
        rw [hxk _ (by rw [hpart]; rfl)]
        congr 2
        exact bytes_ext (by rw [take_bytes]))
      gi_wp2
      refine ⟨trivial, fun h => by simp [Fence.wide] at h, ?_⟩
      refine CallsIn.mono (callsIn_wide.2 (hix _)) ?_
      rintro e w' ⟨rfl, rfl⟩
      gi_wp2
      refine ⟨fun h => by simp [Fence.wide] at h, (round_wide hR).mono ?_⟩
      rintro e W3 (⟨rfl, hJ3⟩ | ⟨rfl, hS3⟩)
      · obtain ⟨⟨hc0, hf0⟩, hc1, hc2⟩ := hcell _ _ _ hJ3
        gi_wp2
        have hJ4 := hset (k + 1) r (r.extract (i + 1).toNat r.size) _ hJ3
        have hi1 : (i + 1).toNat = i.toNat + 1 := by omega
        have hl4 : (r.extract (i + 1).toNat r.size).size = r.size - (i.toNat + 1) := by rw [Lib.size_eq, Lib.extract_to_end, List.length_drop, hlen, hi1]
        have hm4 : leftOf (W3.setCell ⟨b0, 0, none⟩ (.string (r.extract (i + 1).toNat r.size))) b0 = (r.extract (i + 1).toNat r.size).size := by
          unfold leftOf; rw [(hcell _ _ _ hJ4).1.1]
        have hm0 : leftOf w' b0 = r.size := by unfold leftOf; rw [(hcell _ _ _ hJ).1.1]
        refine ⟨⟨k + 1, _, hJ4, ?_, by omega⟩, by rw [hm4, hm0]; omega⟩
        rw [Lib.extract_to_end, hi1]
        have h1 := congrArg List.tail hd
        rw [hpart] at h1
        simpa using h1
      · gi_wp2
        refine bodyPost_ret (results_none rfl _ _ _) rfl ?_
        exact ⟨⟨_, rfl⟩, .inr hS3⟩

end Go.Proofs.YtaeleljlpcjcdaaGreatDoor
namespace Go.Proofs.YtaeleljlpcjcdaaGreatDoor
open Go Go.Sx

abbrev Str (s : ByteArray) : AV := .t (.v (.string s))

theorem f_splitSeq (i j k : Nat) (h1 : i ≠ j) (h2 : i ≠ k) (h3 : j ≠ k) (s sep : ByteArray) : Meets Tryz.prog E0 n_strings_splitSeq [Str s, Str sep, I 0] [] (.fn n_strings_splitSeq_1 [] [.ptr j 0, .ptr i 0, .ptr k 0]) [(i, .box [Str s]), (j, .box [Str sep]), (k, .box [I 0])] := by
  have h0 : Meets Tryz.prog E0 n_strings_splitSeq [Str s, Str sep, I 0] [] (.fn n_strings_splitSeq_1 [] [.ptr 1 0, .ptr 0 0, .ptr 2 0]) [(0, .box [Str s]), (1, .box [Str sep]), (2, .box [I 0])] := by
    refine m_strings_splitSeq (by simp) (shut_of (by simp [idsL, AV.ids, keysOf]) (by simp [Ob.live, Ob.ids, keysOf, idsL, AV.ids])) (shut_of (by simp [idsL, AV.ids, keysOf]) (by simp [Ob.live, Ob.ids, keysOf, idsL, AV.ids])) (by simp [keysOf]) (by simp [keysOf]) ?_
    simp only [go_sem, s_strings_splitSeq]
    refine wO [(0, 100), (1, 101), (2, 102)] [] ?_
    simp only [go_sem, r_strings_splitSeq, exists_eq_left', Option.some.injEq]
    simp [wkV, wkL, slTrees, AV.asOwn, rowPart, stoOf, AV.isNil, shA, rowsT, cellsT, cellT, ren]
  have := h0.ren (fun a => if a = 0 then i else if a = 1 then j else k) (by simp [keysOf]; omega)
  simpa [renL, renA, renS, renO] using this

theorem f_SplitSeq (i j k : Nat) (h1 : i ≠ j) (h2 : i ≠ k) (h3 : j ≠ k) (s sep : ByteArray) : Meets Tryz.prog E0 n_strings_SplitSeq [Str s, Str sep] [] (.fn n_strings_splitSeq_1 [] [.ptr j 0, .ptr i 0, .ptr k 0]) [(i, .box [Str s]), (j, .box [Str sep]), (k, .box [I 0])] := by
  have h0 : Meets Tryz.prog E0 n_strings_SplitSeq [Str s, Str sep] [] (.fn n_strings_splitSeq_1 [] [.ptr 1 0, .ptr 0 0, .ptr 2 0]) [(0, .box [Str s]), (1, .box [Str sep]), (2, .box [I 0])] := by
    refine m_strings_SplitSeq (by simp) (shut_of (by simp [idsL, AV.ids, keysOf]) (by simp [Ob.live, Ob.ids, keysOf, idsL, AV.ids])) (shut_of (by simp [idsL, AV.ids, keysOf]) (by simp [Ob.live, Ob.ids, keysOf, idsL, AV.ids])) (by simp [keysOf]) (by simp [keysOf]) ?_
    simp only [go_sem, s_strings_SplitSeq]
    refine Cl_io [] false (f_splitSeq 300 301 302 (by omega) (by omega) (by omega) s sep) (Wks.refl _) (by simp [keysOf]) (by simp [keysOf, stoOf]) (by simp) (by simp) (by simp [keysOf]) ?_
    simp only [go_sem, froze]
    refine wO [(0, 300), (1, 301), (2, 302)] [] ?_
    simp only [go_sem, r_strings_SplitSeq, exists_eq_left', Option.some.injEq]
    simp [wkV, wkL, slTrees, AV.asOwn, rowPart, stoOf, AV.isNil, shA, rowsT, cellsT, cellT, ren]
  have := h0.ren (fun a => if a = 0 then i else if a = 1 then j else k) (by simp [keysOf]; omega)
  simpa [renL, renA, renS, renO] using this

end Go.Proofs.YtaeleljlpcjcdaaGreatDoor
namespace Go.Proofs.YtaeleljlpcjcdaaGreatDoor
open Go Go.Sx

/-- Seconds of a unit; 0: there is no such one. -/
def rtUnit (c : Nat) : Int := if c = 115 then 1 else if c = 109 then 60 else if c = 104 then 3600 else if c = 100 then 86400 else if c = 119 then 604800 else if c = 121 then 31536000 else 0

theorem rtUnit_le (c : Nat) : 0 ≤ rtUnit c ∧ rtUnit c ≤ 31536000 := by
  unfold rtUnit
  repeat' split
  all_goals omega

abbrev B8 (c : Nat) : AV := .t (.v (.int .u8 (c : Int)))

theorem f_ref10_unit (c : Nat) (hc : c < 256) : Meets Tryz.prog E0 n_ref10_unit [B8 c] [] (I (rtUnit c)) [] := by
  refine st0 m_ref10_unit ?_
  repeat' (first | (simp only [go_sem, s_ref10_unit, *]) | (simp (disch := omega) only [s_ref10_unit, wrap_i64_of, i64_quo, i64_rem, sdiv, smod]) | ((with_reducible refine W_split (by with_unfolding_all exact rfl) (fun hsp => ?_) (fun hsp => ?_)) <;> (try simp only [Bool.not_true, Bool.not_false, decide_eq_true_eq, decide_eq_false_iff_not, Bool.not_eq_true', Bool.not_eq_false', not_false_eq_true] at hsp)) | ((with_reducible refine R_split (by with_unfolding_all exact rfl) (fun hsp => ?_) (fun hsp => ?_)) <;> (try simp only [Bool.not_true, Bool.not_false, decide_eq_true_eq, decide_eq_false_iff_not, Bool.not_eq_true', Bool.not_eq_false', not_false_eq_true] at hsp)) | (with_reducible refine rF ?_))
  all_goals
    refine wE ?_
    simp only [go_sem, r_ref10_unit]
  all_goals
    unfold rtUnit
    repeat' split
  all_goals first | rfl | (exfalso; simp_all; done) | (exfalso; simp at *; omega)

/-- Is it a digit? -/
def digB (b : UInt8) : Bool := decide (48 ≤ b.toNat) && decide (b.toNat ≤ 57)

/-- Digits that a text begins with, up to 2^40 and one; what is left. -/
def rtNum (n : Nat) : List UInt8 → Nat × List UInt8
  | [] => (n, [])
  | b :: l => if digB b then rtNum (min (n * 10 + (b.toNat - 48)) 1099511627777) l else (n, b :: l)

theorem rtNum_le : ∀ (l : List UInt8) (n : Nat), n ≤ 1099511627777 → (rtNum n l).1 ≤ 1099511627777 ∧ (rtNum n l).2.length ≤ l.length
  | [], n, h => by simp [rtNum, h]
  | b :: l, n, h => by
    simp only [rtNum]
    split
    · have := rtNum_le l (min (n * 10 + (b.toNat - 48)) 1099511627777) (Nat.min_le_right ..)
      simp only [List.length_cons]; omega
    · simp [h]

theorem f_ref10_number (s : ByteArray) (hs : s.size ≤ 4611686018427387904) : Meets Tryz.prog E0 n_ref10_number [Str s] [] (.tp [I ((rtNum 0 s.data.toList).1 : Nat), I ((s.size - (rtNum 0 s.data.toList).2.length : Nat))]) [] := by
  refine st0 m_ref10_number ?_
  simp only [go_sem, s_ref10_number]
  refine W_loop (fun i : Nat × List UInt8 => i.2.length) (fun i => Suf s i.2 ∧ i.1 ≤ 1099511627777 ∧ rtNum i.1 i.2 = rtNum 0 s.data.toList)
    (fun i => [(0, Str s), (4, I (i.1 : Nat)), (5, I ((s.size - i.2.length : Nat)))]) (fun _ => []) (0, s.data.toList) ⟨Suf.all s, by omega, rfl⟩ ?_ ?_
  · rw [ba_len, Nat.sub_self]
    exact (sR [] [])
  · rintro ⟨n, rest⟩ ⟨hsuf, hn, hnum⟩
    have hl := hsuf.len
    have hg := hsuf.get 0
    simp only [Nat.add_zero] at hg
    cases rest with
    | nil =>
      simp only [List.length_nil, Nat.sub_zero]
      have d1 : decide (s.size < s.size) = false := by simp
      simp only [go_sem, d1]
      refine wE ?_
      simp only [go_sem, r_ref10_number]
      rw [← hnum]
      simp [rtNum]
    | cons b l =>
      simp only [List.length_cons] at hl hg ⊢
      obtain ⟨p, hp⟩ : ∃ p, s.size - (l.length + 1) = p := ⟨_, rfl⟩
      rw [hp] at hg ⊢
      have d1 : decide (p < s.size) = true := by simp; omega
      have hb := u8_lt b
      cases h1 : decide (48 ≤ b.toNat)
      · simp only [go_sem, d1, hg, h1]
        refine wE ?_
        simp only [go_sem, r_ref10_number]
        rw [← hnum]
        simp [rtNum, digB, h1, hp]
      · cases h2 : decide (b.toNat ≤ 57)
        · simp only [go_sem, d1, hg, h1, h2]
          refine wE ?_
          simp only [go_sem, r_ref10_number]
          rw [← hnum]
          simp [rtNum, digB, h1, h2, hp]
        · simp at h1 h2
          have d2 : decide (48 ≤ b.toNat) = true := by simpa using h1
          have d3 : decide (b.toNat ≤ 57) = true := by simpa using h2
          have e1 : min (IntKind.i64.wrap (IntKind.i64.wrap ((n : Int) * 10) + IntKind.i64.wrap (((b.toNat + 256 - 48 % 256) % 256 : Nat) : Int))) 1099511627777 = ((min (n * 10 + (b.toNat - 48)) 1099511627777 : Nat) : Int) := by
            simp only at hn
            rw [show (b.toNat + 256 - 48 % 256) % 256 = b.toNat - 48 by omega, wrap_i64_of (n := (n : Int) * 10) (by omega) (by omega), wrap_i64_of (n := ((b.toNat - 48 : Nat) : Int)) (by omega) (by omega), wrap_i64_of (by omega) (by omega)]
            omega
          have e2 : IntKind.i64.wrap ((p : Int) + 1) = ((s.size - l.length : Nat) : Int) := by rw [wrap_i64_of (by omega) (by omega)]; omega
          simp only [go_sem, d1, hg, d2, d3, e1, e2]
          refine rd_of (min (n * 10 + (b.toNat - 48)) 1099511627777, l) (by simp) ⟨hsuf.tail, Nat.min_le_right .., ?_⟩ ?_
          · rw [← hnum]; simp [rtNum, digB, d2, d3]
          · exact (sR [] [])

end Go.Proofs.YtaeleljlpcjcdaaGreatDoor
namespace Go.Proofs.YtaeleljlpcjcdaaGreatDoor
open Go Go.Sx Go.RowKit Go.Shelf

theorem f_IndexByte (s : ByteArray) (c : UInt8) : Meets Tryz.prog E0 n_strings_IndexByte [Str s, B8 c.toNat] [] (I (Lib.indexByte s.data.toList c)) [] := by
  refine meets_lib (vals := [.string s, .int .u8 c.toNat]) (v := .int .i64 (Lib.indexByte s.data.toList c)) (enters_of Tryz.func122 (by kernel_rfl) rfl) (fun A φ w => by simp only [CA, CT]; exact ⟨trivial, rfl⟩) rfl ?_
  intro w _
  have h := Go.Proofs.Any.strings_IndexByte Go.Proofs.Tryz.laysIndexByte s (c.toNat : Int) w
  refine Calls.mono h ?_
  rintro e w' ⟨rfl, rfl⟩
  exact ⟨by simp, Grown.refl _⟩

theorem f_Trim_one (s : ByteArray) (c : UInt8) (hc : c.toNat < 128) (hs : s.size ≤ 9223372036854775807) : Meets Tryz.prog E0 n_strings_Trim [Str s, Str ⟨#[c]⟩] [] (Str ⟨(Lib.trimB s.data.toList c).toArray⟩) [] := by
  refine meets_lib (vals := [.string s, .string ⟨#[c]⟩]) (v := .string ⟨(Lib.trimB s.data.toList c).toArray⟩) (enters_of Tryz.func110 (by kernel_rfl) rfl) (fun A φ w => by simp only [CA, CT]; exact ⟨trivial, rfl⟩) rfl ?_
  intro w _
  refine Calls.mono (Go.Proofs.Any.strings_Trim_one Go.Proofs.Tryz.laysTrim s c hc w hs) ?_
  rintro e w' ⟨rfl, rfl | rfl⟩
  · exact ⟨rfl, Grown.refl _⟩
  · exact ⟨rfl, ⟨rfl, rfl, rfl, fun _ => Nat.le_succ _, Nat.le_refl _, fun _ _ => rfl⟩⟩

theorem f_Index_in (s : ByteArray) (c : UInt8) : Meets Tryz.prog E0 n_stringslite_Index [Str s, Str ⟨#[c]⟩] [] (I (Lib.indexByte s.data.toList c)) [] := by
  refine meets_lib (vals := [.string s, .string ⟨#[c]⟩]) (v := .int .i64 (Lib.indexByte s.data.toList c)) (enters_of Tryz.func144 (by kernel_rfl) rfl) (fun A φ w => by simp only [CA, CT]; exact ⟨trivial, rfl⟩) rfl ?_
  intro w _
  refine Calls.mono (Go.Proofs.Any.stringslite_Index_one Go.Proofs.Tryz.laysIndexIn s c w) ?_
  rintro e w' ⟨rfl, rfl⟩
  exact ⟨rfl, Grown.refl _⟩

/-- A text around the first of a byte. -/
def cutB (s : ByteArray) (c : UInt8) : ByteArray × ByteArray × Bool :=
  if 0 ≤ Lib.indexByte s.data.toList c then (s.extract 0 (Lib.indexByte s.data.toList c).toNat, s.extract ((Lib.indexByte s.data.toList c).toNat + 1) s.size, true) else (s, ⟨#[]⟩, false)

theorem f_Cut_in (s : ByteArray) (c : UInt8) (hs : s.size ≤ 4611686018427387904) : Meets Tryz.prog E0 n_stringslite_Cut [Str s, Str ⟨#[c]⟩] [] (.tp [Str (cutB s c).1, Str (cutB s c).2.1, Bo (cutB s c).2.2]) [] := by
  refine st0 m_stringslite_Cut ?_
  simp only [go_sem, s_stringslite_Cut]
  refine Cl_plain (f_Index_in s c) ?_
  have hp := partsB_at c s.data.toList
  unfold cutB
  generalize Lib.indexByte s.data.toList c = i at *
  rw [ba_len] at hp
  by_cases h0 : 0 ≤ i
  · have d0 : decide (0 ≤ i) = true := by simp; omega
    obtain ⟨n, rfl⟩ : ∃ n : Nat, i = n := ⟨i.toNat, by omega⟩
    have hlt := (hp.2 h0).1
    simp only [Int.toNat_natCast] at hlt
    have w1 : IntKind.i64.wrap ((n : Int) + ((1 : Nat) : Int)) = ((n + 1 : Nat) : Int) := by rw [wrap_i64_of (by omega) (by omega)]; omega
    have hsz : (⟨#[c]⟩ : ByteArray).size = 1 := rfl
    have b1 : (n : Int) ≤ (s.size : Int) := by omega
    have b2 : ((n + 1 : Nat) : Int) ≤ (s.size : Int) := by omega
    simp only [go_sem, d0, hsz, w1, b1, b2]
    refine wE ?_
    simp only [go_sem, r_stringslite_Cut]
  · have d0 : decide (0 ≤ i) = false := by simp; omega
    rw [if_neg h0]
    simp only [go_sem, d0]
    refine wE ?_
    simp only [go_sem, r_stringslite_Cut]
    rfl

theorem f_Cut (s : ByteArray) (c : UInt8) (hs : s.size ≤ 4611686018427387904) : Meets Tryz.prog E0 n_strings_Cut [Str s, Str ⟨#[c]⟩] [] (.tp [Str (cutB s c).1, Str (cutB s c).2.1, Bo (cutB s c).2.2]) [] := by
  refine st0 m_strings_Cut ?_
  simp only [go_sem, s_strings_Cut]
  refine Cl_plain (f_Cut_in s c hs) ?_
  simp only [go_sem]
  refine wE ?_
  simp only [go_sem, r_strings_Cut]

end Go.Proofs.YtaeleljlpcjcdaaGreatDoor
namespace Go.Proofs.YtaeleljlpcjcdaaGreatDoor
open Go Go.Sx

theorem rtNum_suf : ∀ (l : List UInt8) (n : Nat), (rtNum n l).2 <:+ l
  | [], n => by simp [rtNum]
  | b :: l, n => by
    simp only [rtNum]
    split
    · exact (rtNum_suf l _).trans (List.suffix_cons b l)
    · exact List.suffix_refl _

/-- Seconds of a text; how it fails. -/
def rtSpn (l : List UInt8) : Int × Int := match rtNum 0 l with
  | (n, [c]) => if l.length = 1 then (0, 2) else if rtUnit c.toNat = 0 then (0, 2) else if (n : Int) > 1099511627776 / rtUnit c.toNat then (0, 3) else ((n : Int) * rtUnit c.toNat, 0)
  | _ => (0, 2)

theorem f_ref10_Span (s : ByteArray) (hs : s.size ≤ 4611686018427387904) : Meets Tryz.prog E0 n_ref10_Span [Str s] [] (.tp [I (rtSpn s.data.toList).1, I (rtSpn s.data.toList).2]) [] := by
  refine st0 m_ref10_Span ?_
  simp only [go_sem, s_ref10_Span]
  refine Cl_plain (f_ref10_number s hs) ?_
  have hsuf : Suf s (rtNum 0 s.data.toList).2 := rtNum_suf _ _
  have hn := (rtNum_le s.data.toList 0 (by omega)).1
  have hL := ba_len s
  have hsp : rtSpn s.data.toList = match rtNum 0 s.data.toList with
    | (n, [c]) => if s.data.toList.length = 1 then (0, 2) else if rtUnit c.toNat = 0 then (0, 2) else if (n : Int) > 1099511627776 / rtUnit c.toNat then (0, 3) else ((n : Int) * rtUnit c.toNat, 0)
    | _ => (0, 2) := rfl
  generalize rtSpn s.data.toList = sp at *
  generalize rtNum 0 s.data.toList = nm at *
  obtain ⟨n, rest⟩ := nm
  simp only at hsuf hn hsp ⊢
  have hl := hsuf.len
  have hg := hsuf.get 0
  simp only [Nat.add_zero] at hg
  obtain ⟨p, hp⟩ : ∃ p, s.size - rest.length = p := ⟨_, rfl⟩
  rw [hp] at hg ⊢
  by_cases h0 : (p : Int) = 0
  · have d0 : decide ((p : Int) = 0) = true := by simp; omega
    simp only [go_sem, d0]
    have hv : sp = (0, 2) := by
      rw [hsp]
      rcases rest with _ | ⟨c, _ | ⟨d, r⟩⟩
      · rfl
      · simp only [List.length_cons, List.length_nil] at hl hp; simp only [hL, if_pos (show s.size = 1 by omega)]
      · rfl
    rw [hv]
    refine wE ?_
    simp only [go_sem, r_ref10_Span]
  · have d0 : decide ((p : Int) = 0) = false := by simp; omega
    have w1 : IntKind.i64.wrap ((s.size : Int) - 1) = (s.size : Int) - 1 := wrap_i64_of (by omega) (by omega)
    by_cases h1 : (p : Int) = (s.size : Int) - 1
    · have d1 : decide ((p : Int) = (s.size : Int) - 1) = true := by simp; omega
      have hr1 : rest.length = 1 := by omega
      obtain ⟨c, rfl⟩ : ∃ c, rest = [c] := List.length_eq_one_iff.1 hr1
      simp only [List.getElem?_cons_zero] at hg
      simp only [hL, if_neg (show ¬ s.size = 1 by omega)] at hsp
      have hu := rtUnit_le c.toNat
      have hc := f_ref10_unit c.toNat (u8_lt c)
      generalize rtUnit c.toNat = u at *
      simp only [go_sem, d0, w1, d1, hg]
      refine Cl_plain hc ?_
      by_cases hu0 : u = 0
      · have du : decide (u = 0) = true := by simp; omega
        simp only [go_sem, du]
        rw [if_pos hu0] at hsp
        rw [hsp]
        refine wE ?_
        simp only [go_sem, r_ref10_Span]
      · have du : decide (u = 0) = false := by simp; omega
        simp only [go_sem, du, hg]
        refine Cl_plain hc ?_
        rw [if_neg hu0] at hsp
        have q0 : (0 : Int) ≤ 1099511627776 / u := Int.ediv_nonneg (by omega) (by omega)
        have q1 : (1099511627776 : Int) / u ≤ 1099511627776 := Int.ediv_le_self _ (by omega)
        have q2 : (1099511627776 : Int) / u * u ≤ 1099511627776 := Int.ediv_mul_le _ hu0
        have wq : binInt .quo .i64 1099511627776 u = some (.int .i64 (1099511627776 / u)) := by
          rw [i64_quo hu0, sdiv (by omega), wrap_i64_of (by omega) (by omega)]
        generalize (1099511627776 : Int) / u = q at *
        by_cases hnq : q < (n : Int)
        · have dq : decide (q < (n : Int)) = true := by simp; omega
          simp only [go_sem, du, wq, dq]
          rw [if_pos hnq] at hsp
          rw [hsp]
          refine wE ?_
          simp only [go_sem, r_ref10_Span]
        · have dq : decide (q < (n : Int)) = false := by simp; omega
          have wm : IntKind.i64.wrap ((n : Int) * u) = (n : Int) * u := by
            have m1 : (n : Int) * u ≤ q * u := Int.mul_le_mul_of_nonneg_right (by omega) (by omega)
            have m2 : 0 ≤ (n : Int) * u := Int.mul_nonneg (by omega) (by omega)
            exact wrap_i64_of (by omega) (by omega)
          simp only [go_sem, du, wq, dq, hg]
          refine Cl_plain hc ?_
          simp only [go_sem, wm]
          rw [if_neg hnq] at hsp
          rw [hsp]
          refine wE ?_
          simp only [go_sem, r_ref10_Span]
    · have d1 : decide ((p : Int) = (s.size : Int) - 1) = false := by simp; omega
      simp only [go_sem, d0, w1, d1]
      have hv : sp = (0, 2) := by
        rw [hsp]
        rcases rest with _ | ⟨c, _ | ⟨d, r⟩⟩
        · rfl
        · simp only [List.length_cons, List.length_nil] at hl hp; omega
        · rfl
      rw [hv]
      refine wE ?_
      simp only [go_sem, r_ref10_Span]

/-- A span's text, or digits alone. -/
def rtEith (l : List UInt8) : Int × Bool × Int := if l ≠ [] ∧ (rtNum 0 l).2 = [] then (if (rtNum 0 l).1 > 1099511627776 then (0, true, 3) else (((rtNum 0 l).1 : Nat), true, 0)) else ((rtSpn l).1, false, (rtSpn l).2)

theorem f_ref10_either (s : ByteArray) (hs : s.size ≤ 4611686018427387904) : Meets Tryz.prog E0 n_ref10_either [Str s] [] (.tp [I (rtEith s.data.toList).1, Bo (rtEith s.data.toList).2.1, I (rtEith s.data.toList).2.2]) [] := by
  refine st0 m_ref10_either ?_
  simp only [go_sem, s_ref10_either]
  refine Cl_plain (f_ref10_number s hs) ?_
  have hsuf : Suf s (rtNum 0 s.data.toList).2 := rtNum_suf _ _
  have hn := (rtNum_le s.data.toList 0 (by omega)).1
  have hL := ba_len s
  have hspan := f_ref10_Span s hs
  have hne : s.data.toList ≠ [] ↔ s.size ≠ 0 := by rw [← hL]; cases s.data.toList <;> simp
  have hsp : rtEith s.data.toList = (if s.size ≠ 0 ∧ (rtNum 0 s.data.toList).2 = [] then (if (rtNum 0 s.data.toList).1 > 1099511627776 then (0, true, 3) else (((rtNum 0 s.data.toList).1 : Nat), true, 0)) else ((rtSpn s.data.toList).1, false, (rtSpn s.data.toList).2) : Int × Bool × Int) := by
    unfold rtEith; simp only [hne]
  generalize rtEith s.data.toList = sp at *
  generalize rtSpn s.data.toList = sq at *
  generalize rtNum 0 s.data.toList = nm at *
  obtain ⟨n, rest⟩ := nm
  simp only at hsuf hn hsp ⊢
  have hl := hsuf.len
  obtain ⟨p, hp⟩ : ∃ p, s.size - rest.length = p := ⟨_, rfl⟩
  rw [hp]
  by_cases h0 : p = 0
  · have d0 : decide ((0 : Int) < (p : Int)) = false := by simp; omega
    rw [if_neg (by rintro ⟨h1, h2⟩; subst h2; simp at hp; omega)] at hsp
    simp only [go_sem, d0]
    refine Cl_plain hspan ?_
    simp only [go_sem]
    rw [hsp]
    refine wE ?_
    simp only [go_sem, r_ref10_either]
  · have d0 : decide ((0 : Int) < (p : Int)) = true := by simp; omega
    by_cases h1 : p = s.size
    · have hr0 : rest = [] := List.eq_nil_of_length_eq_zero (by omega)
      have d1 : decide (p = s.size) = true := by simp; omega
      rw [if_pos ⟨by omega, hr0⟩] at hsp
      by_cases h2 : n > 1099511627776
      · have d2 : decide ((1099511627776 : Int) < (n : Int)) = true := by simp; omega
        rw [if_pos h2] at hsp
        simp only [go_sem, d0, d1, d2]
        rw [hsp]
        refine wE ?_
        simp only [go_sem, r_ref10_either]
      · have d2 : decide ((1099511627776 : Int) < (n : Int)) = false := by simp; omega
        rw [if_neg h2] at hsp
        simp only [go_sem, d0, d1, d2]
        rw [hsp]
        refine wE ?_
        simp only [go_sem, r_ref10_either]
    · have d1 : decide (p = s.size) = false := by simp; omega
      rw [if_neg (by rintro ⟨g1, g2⟩; subst g2; simp at hp; omega)] at hsp
      simp only [go_sem, d0, d1]
      refine Cl_plain hspan ?_
      simp only [go_sem]
      rw [hsp]
      refine wE ?_
      simp only [go_sem, r_ref10_either]

end Go.Proofs.YtaeleljlpcjcdaaGreatDoor
namespace Go.Proofs.YtaeleljlpcjcdaaGreatDoor
open Go Go.Sx Go.RowKit Go.Shelf

/-- Digits alone: their number; how it fails. -/
def rtWhole (l : List UInt8) : Int × Int := if l ≠ [] ∧ (rtNum 0 l).2 = [] then (if (rtNum 0 l).1 > 1099511627776 then (0, 3) else (((rtNum 0 l).1 : Nat), 0)) else (0, 2)

def digits10 : ByteArray := ⟨#[48, 49, 50, 51, 52, 53, 54, 55, 56, 57]⟩

theorem dig_in (b : UInt8) : digits10.data.toList.contains b = digB b := by
  have h := (by decide +kernel : ∀ n : Fin 256, ([48, 49, 50, 51, 52, 53, 54, 55, 56, 57] : List UInt8).contains (UInt8.ofNat n.1) = digB (UInt8.ofNat n.1))
  have := h ⟨b.toNat, u8_lt b⟩
  simpa [digits10] using this

theorem rtNum_all : ∀ (l : List UInt8) (n : Nat), (rtNum n l).2 = [] ↔ l.all digB = true
  | [], n => by simp [rtNum]
  | b :: l, n => by
    simp only [rtNum, List.all_cons, Bool.and_eq_true]
    split
    · rename_i h; rw [rtNum_all l]; simp [h]
    · rename_i h; simp [h]

theorem trimS_nil (l cs : List UInt8) : Lib.trimS l cs = [] ↔ ∀ b ∈ l, cs.contains b = true := by
  unfold Lib.trimS Lib.trimLeftS Lib.trimRightS
  constructor
  · intro h b hb
    have h1 : ∀ b ∈ (l.reverse.dropWhile fun x => cs.contains x).reverse, cs.contains b = true := by
      intro b hb
      by_cases hc : cs.contains b = true
      · exact hc
      · exfalso
        have : ∀ (l : List UInt8), b ∈ l → l.dropWhile (fun x => cs.contains x) ≠ [] := by
          intro l
          induction l with
          | nil => simp
          | cons a l ih =>
            intro hm
            simp only [List.dropWhile_cons]
            split
            · rename_i ha
              rcases List.mem_cons.1 hm with rfl | hm
              · exact absurd ha hc
              · exact ih hm
            · simp
        exact this _ hb h
    have h2 : l.reverse.dropWhile (fun x => cs.contains x) = [] := by
      cases hd : l.reverse.dropWhile (fun x => cs.contains x) with
      | nil => rfl
      | cons a r =>
        exfalso
        have h3 : cs.contains a = true := h1 a (by rw [hd]; simp)
        have h4 := List.head?_dropWhile_not (fun x => cs.contains x) l.reverse
        rw [hd] at h4
        simp at h4
        simp at h3
        exact h4 h3
    have h5 : ∀ (l : List UInt8), l.dropWhile (fun x => cs.contains x) = [] → ∀ b ∈ l, cs.contains b = true := by
      intro l
      induction l with
      | nil => simp
      | cons a l ih =>
        intro hd b hb
        simp only [List.dropWhile_cons] at hd
        split at hd
        · rename_i ha
          rcases List.mem_cons.1 hb with rfl | hb
          · exact ha
          · exact ih hd b hb
        · cases hd
    exact h5 _ h2 b (by simpa using hb)
  · intro h
    have h1 : l.reverse.dropWhile (fun x => cs.contains x) = [] := by
      have h6 : ∀ (l : List UInt8), (∀ b ∈ l, cs.contains b = true) → l.dropWhile (fun x => cs.contains x) = [] := by
        intro l
        induction l with
        | nil => simp
        | cons a l ih =>
          intro ha
          have h7 := ha a (by simp)
          simp only [List.dropWhile_cons]
          rw [if_pos h7]
          exact ih fun b hb => ha b (by simp [hb])
      exact h6 _ fun b hb => h b (by simpa using hb)
    rw [h1]; simp

/-- What digits spell. -/
def rtVal (n : Nat) (l : List UInt8) : Nat := l.foldl (fun m b => m * 10 + (b.toNat - 48)) n

theorem rtVal_nil (n : Nat) : rtVal n [] = n := List.foldl_nil
theorem rtVal_cons (n : Nat) (b : UInt8) (l : List UInt8) : rtVal n (b :: l) = rtVal (n * 10 + (b.toNat - 48)) l := List.foldl_cons ..

theorem rtVal_ge : ∀ (l : List UInt8) (n : Nat), n ≤ rtVal n l
  | [], n => by rw [rtVal_nil]; exact Nat.le_refl n
  | b :: l, n => by rw [rtVal_cons]; exact Nat.le_trans (by omega) (rtVal_ge l (n * 10 + (b.toNat - 48)))

theorem minmin (n d K : Nat) : min (min n K * 10 + d) K = min (n * 10 + d) K := by omega

theorem rtNum_val (l : List UInt8) (ha : l.all digB = true) : ∀ (n m : Nat), m = min n 1099511627777 → (rtNum m l).1 = min (rtVal n l) 1099511627777 := by
  induction l with
  | nil => intro n m h; rw [rtVal_nil]; exact h
  | cons b l ih =>
    intro n m h
    have h1 : digB b = true := by simp only [List.all_cons, Bool.and_eq_true] at ha; exact ha.1
    have h2 : l.all digB = true := by simp only [List.all_cons, Bool.and_eq_true] at ha; exact ha.2
    have e : rtNum m (b :: l) = rtNum (min (m * 10 + (b.toNat - 48)) 1099511627777) l := by rw [rtNum, if_pos h1]
    rw [e, rtVal_cons]
    exact ih h2 _ _ (by rw [h]; exact minmin n _ 1099511627777)

theorem parseU_of : ∀ (l : List UInt8) (n : Nat), l.all digB = true → (rtVal n l ≤ 1099511627776 → Lib.parseUintM (2 ^ 64 - 1) n l = .ok (rtVal n l)) ∧ (Lib.parseUintM (2 ^ 64 - 1) n l = .range ∨ Lib.parseUintM (2 ^ 64 - 1) n l = .ok (rtVal n l))
  | [], n, _ => by simp [Lib.parseUintM, rtVal_nil]
  | b :: l, n, h => by
    simp only [List.all_cons, Bool.and_eq_true] at h
    obtain ⟨hb, hl⟩ := h
    simp only [digB, Bool.and_eq_true, decide_eq_true_eq] at hb
    obtain ⟨i1, i2⟩ := parseU_of l (n * 10 + (b.toNat - 48)) hl
    have hge := rtVal_ge l (n * 10 + (b.toNat - 48))
    simp only [Lib.parseUintM, if_pos hb, rtVal_cons]
    refine ⟨fun hv => ?_, ?_⟩
    · rw [if_neg (by omega), if_neg (by omega)]; exact i1 hv
    · split
      · exact Or.inl rfl
      · split
        · exact Or.inl rfl
        · exact i2

theorem parseI_of (l : List UInt8) (hne : l ≠ []) (h : l.all digB = true) : (rtVal 0 l ≤ 1099511627776 ∧ Lib.parseIntB 64 l = .ok (rtVal 0 l)) ∨ (rtVal 0 l > 1099511627776 ∧ (Lib.parseIntB 64 l = .ok (rtVal 0 l) ∨ Lib.parseIntB 64 l = .range)) := by
  cases l with
  | nil => exact absurd rfl hne
  | cons c r =>
    have hc : digB c = true := by simp at h; exact h.1
    simp only [digB, Bool.and_eq_true, decide_eq_true_eq] at hc
    obtain ⟨i1, i2⟩ := parseU_of (c :: r) 0 h
    have e1 : (if c.toNat = 43 ∨ c.toNat = 45 then r else c :: r) = c :: r := if_neg (by omega)
    have e2 : Lib.parseUintB 64 (c :: r) = Lib.parseUintM (2 ^ 64 - 1) 0 (c :: r) := by simp [Lib.parseUintB]
    simp only [Lib.parseIntB, e1, e2]
    have e3 : ¬ c.toNat = 45 := by omega
    by_cases hv : rtVal 0 (c :: r) ≤ 1099511627776
    · left
      refine ⟨hv, ?_⟩
      rw [i1 hv]
      simp only [e3, not_false_eq_true, true_and, false_and, if_false]
      rw [if_neg (by omega)]
    · right
      refine ⟨by omega, ?_⟩
      rcases i2 with i2 | i2
      · rw [i2]; exact Or.inr rfl
      · rw [i2]
        simp only [e3, not_false_eq_true, true_and, false_and, if_false]
        split
        · exact Or.inr rfl
        · exact Or.inl rfl

theorem grown_of_below {w w' : World} (h : Below w.heap.size w w') (hc : E0.cnt → False) : Grown E0 w w' := ⟨h.os, h.tape, h.output, fun hh => (hc hh).elim, h.size, h.block⟩

end Go.Proofs.YtaeleljlpcjcdaaGreatDoor
namespace Go.Proofs.YtaeleljlpcjcdaaGreatDoor
open Go Go.Sx

theorem rtNum_app : ∀ (l r : List UInt8) (n : Nat), l.all digB = true → rtNum n (l ++ r) = rtNum (rtNum n l).1 r
  | [], r, n, _ => rfl
  | b :: l, r, n, h => by
    have h1 : digB b = true := by simp only [List.all_cons, Bool.and_eq_true] at h; exact h.1
    have h2 : l.all digB = true := by simp only [List.all_cons, Bool.and_eq_true] at h; exact h.2
    rw [List.cons_append, rtNum, if_pos h1, rtNum, if_pos h1]
    exact rtNum_app l r _ h2

theorem rtNum_stop : ∀ (l r : List UInt8) (n : Nat), l.all digB = false → ∃ x y, (rtNum n (l ++ r)).2 = x :: (y ++ r)
  | [], r, n, h => by simp at h
  | b :: l, r, n, h => by
    rw [List.cons_append, rtNum]
    by_cases h1 : digB b = true
    · rw [if_pos h1]
      refine rtNum_stop l r _ ?_
      simpa [h1] using h
    · rw [if_neg h1]
      exact ⟨b, l, rfl⟩

theorem dig_unit (c : UInt8) (h : digB c = true) : rtUnit c.toNat = 0 := by
  simp only [digB, Bool.and_eq_true, decide_eq_true_eq] at h
  unfold rtUnit
  rw [if_neg (by omega), if_neg (by omega), if_neg (by omega), if_neg (by omega), if_neg (by omega), if_neg (by omega)]

theorem rtNum_lt (l : List UInt8) : (rtNum 0 l).1 ≤ 1099511627777 := (rtNum_le l 0 (Nat.zero_le _)).1

theorem rtSpn_snoc (l : List UInt8) (c : UInt8) : rtSpn (l ++ [c]) =
    if rtUnit c.toNat = 0 ∨ (rtWhole l).2 = 2 then (0, 2) else if (rtWhole l).2 ≠ 0 ∨ (rtWhole l).1 > 1099511627776 / rtUnit c.toNat then (0, 3) else ((rtWhole l).1 * rtUnit c.toNat, 0) := by
  have hu := rtUnit_le c.toNat
  unfold rtSpn
  by_cases hd : l.all digB = true
  · rw [rtNum_app l [c] 0 hd]
    have hn := rtNum_lt l
    have hr : (rtNum 0 l).2 = [] := (rtNum_all _ _).2 hd
    have hw : rtWhole l = if l ≠ [] then (if (rtNum 0 l).1 > 1099511627776 then (0, 3) else ((((rtNum 0 l).1 : Nat) : Int), 0)) else (0, 2) := by
      unfold rtWhole; simp only [hr, and_true]
    rw [hw]
    generalize (rtNum 0 l).1 = v at *
    by_cases hc : digB c = true
    · have : rtNum v [c] = (min (v * 10 + (c.toNat - 48)) 1099511627777, []) := by rw [rtNum, if_pos hc, rtNum]
      rw [this, if_pos (Or.inl (dig_unit c hc))]
    · have : rtNum v [c] = (v, [c]) := by rw [rtNum, if_neg hc]
      rw [this]
      simp only
      by_cases hl : l = []
      · subst hl
        simp
      · have hlen : ¬ (l ++ [c]).length = 1 := by
          rw [List.length_append]
          have : 0 < l.length := List.length_pos_iff.2 hl
          simp; omega
        rw [if_neg hlen, if_pos hl]
        by_cases h0 : rtUnit c.toNat = 0
        · rw [if_pos h0, if_pos (Or.inl h0)]
        · rw [if_neg h0]
          by_cases hv : v > 1099511627776
          · rw [if_pos hv]
            have q1 : (1099511627776 : Int) / rtUnit c.toNat ≤ 1099511627776 := Int.ediv_le_self _ (by omega)
            rw [if_pos (by omega), if_neg (by simp [h0]), if_pos (by simp)]
          · rw [if_neg hv]
            simp [h0]
  · have hd' : l.all digB = false := by simpa using hd
    obtain ⟨x, y, hx⟩ := rtNum_stop l [c] 0 hd'
    have hw : (rtWhole l).2 = 2 := by
      unfold rtWhole
      rw [if_neg]
      rintro ⟨_, h⟩; exact hd ((rtNum_all _ _).1 h)
    rw [if_pos (Or.inr hw)]
    generalize rtNum 0 (l ++ [c]) = z at *
    obtain ⟨a, b⟩ := z
    simp only at hx
    subst hx
    cases y <;> rfl

theorem rtEith_eq (l : List UInt8) : rtEith l = if (rtWhole l).2 = 2 then ((rtSpn l).1, false, (rtSpn l).2) else ((rtWhole l).1, true, (rtWhole l).2) := by
  unfold rtEith rtWhole
  by_cases h : l ≠ [] ∧ (rtNum 0 l).2 = []
  · rw [if_pos h, if_pos h]
    by_cases hv : (rtNum 0 l).1 > 1099511627776
    · rw [if_pos hv, if_pos hv]; rfl
    · rw [if_neg hv, if_neg hv]; rfl
  · rw [if_neg h, if_neg h]; rfl

theorem rtWhole_le (l : List UInt8) : 0 ≤ (rtWhole l).1 ∧ (rtWhole l).1 ≤ 1099511627776 ∧ ((rtWhole l).2 = 0 ∨ (rtWhole l).2 = 2 ∨ (rtWhole l).2 = 3) := by
  unfold rtWhole
  generalize (rtNum 0 l).1 = v
  split
  · split
    · simp
    · refine ⟨?_, ?_, Or.inl rfl⟩ <;> simp only <;> omega
  · simp

theorem snoc_of {l : List UInt8} (h : l ≠ []) : ∃ i c, l = i ++ [c] := ⟨l.dropLast, l.getLast h, (List.dropLast_concat_getLast h).symm⟩

theorem rtSpn_nil : rtSpn [] = (0, 2) := rfl

theorem rtSpn_le (l : List UInt8) : 0 ≤ (rtSpn l).1 ∧ (rtSpn l).1 ≤ 1099511627776 ∧ ((rtSpn l).2 = 0 ∨ (rtSpn l).2 = 2 ∨ (rtSpn l).2 = 3) := by
  by_cases h : l = []
  · subst h; rw [rtSpn_nil]; simp
  · obtain ⟨i, c, rfl⟩ := snoc_of h
    rw [rtSpn_snoc]
    have hw := rtWhole_le i
    have hu := rtUnit_le c.toNat
    generalize rtWhole i = w at *
    generalize rtUnit c.toNat = u at *
    split
    · simp
    · rename_i h1
      split
      · simp
      · rename_i h2
        have h0 : ¬ u = 0 := fun e => h1 (Or.inl e)
        have q2 : (1099511627776 : Int) / u * u ≤ 1099511627776 := Int.ediv_mul_le _ h0
        have m1 : w.1 * u ≤ 1099511627776 / u * u := Int.mul_le_mul_of_nonneg_right (by
          have : ¬ w.1 > 1099511627776 / u := fun e => h2 (Or.inr e)
          omega) (by omega)
        have m2 : 0 ≤ w.1 * u := Int.mul_nonneg (by omega) (by omega)
        refine ⟨m2, ?_, Or.inl rfl⟩
        show w.1 * u ≤ _
        omega

theorem rtEith_le (l : List UInt8) : 0 ≤ (rtEith l).1 ∧ (rtEith l).1 ≤ 1099511627776 ∧ ((rtEith l).2.2 = 0 ∨ (rtEith l).2.2 = 2 ∨ (rtEith l).2.2 = 3) := by
  rw [rtEith_eq]
  have h1 := rtWhole_le l
  have h2 := rtSpn_le l
  split
  · exact h2
  · exact h1

theorem colon_bad {l : List UInt8} (h : (58 : UInt8) ∈ l) : (rtEith l).2.2 = 2 := by
  have hnd : ∀ i : List UInt8, (58 : UInt8) ∈ i → (rtWhole i).2 = 2 := by
    intro i hi
    unfold rtWhole
    rw [if_neg]
    rintro ⟨_, h⟩
    have := (rtNum_all _ _).1 h
    rw [List.all_eq_true] at this
    exact absurd (this _ hi) (by decide)
  rw [rtEith_eq, if_pos (hnd l h)]
  have hne : l ≠ [] := by rintro rfl; simp at h
  obtain ⟨i, c, rfl⟩ := snoc_of hne
  rw [rtSpn_snoc]
  rcases List.mem_append.1 h with h | h
  · rw [if_pos (Or.inr (hnd i h))]
  · have : c = 58 := (List.mem_singleton.1 h).symm
    subst this
    rw [if_pos (Or.inl (by decide))]

/-- An archive of a text; how it fails. -/
def rtRung (l : List UInt8) : Int × Int × Int := match partsB 58 (Lib.trimB l 32) with
  | [a, b] => if (rtEith a).2.2 = 2 ∨ (rtEith b).2.2 = 2 then (0, 0, 7) else if (rtEith a).2.2 ≠ 0 ∨ (rtEith b).2.2 ≠ 0 ∨ (rtEith a).1 = 0 then (0, 0, 3) else ((rtEith a).1, if (rtEith b).2.1 then (rtEith b).1 else (rtEith b).1 / (rtEith a).1, 0)
  | _ => (0, 0, 7)

theorem index_mem {l : List UInt8} {c : UInt8} (h : 0 ≤ Lib.indexByte l c) : c ∈ l := by
  induction l with
  | nil => simp [Lib.indexByte] at h
  | cons b l ih =>
    by_cases hb : b = c
    · subst hb; simp
    · refine List.mem_cons_of_mem _ (ih ?_)
      have hge := Lib.indexByte_ge l c
      have hb' : (b == c) = false := by simpa using hb
      simp only [Lib.indexByte, hb'] at h
      by_cases hi : Lib.indexByte l c = -1
      · have hi' : (Lib.indexByte l c == -1) = true := by simpa using hi
        simp [hi] at h
      · omega

theorem rtRung_eq (l : List UInt8) : rtRung l = (let t := Lib.trimB l 32; let i := Lib.indexByte t 58
    if i < 0 then (0, 0, 7) else let x := rtEith (t.take i.toNat); let y := rtEith (t.drop (i.toNat + 1))
      if x.2.2 = 2 ∨ y.2.2 = 2 then (0, 0, 7) else if x.2.2 ≠ 0 ∨ y.2.2 ≠ 0 ∨ x.1 = 0 then (0, 0, 3) else (x.1, if y.2.1 then y.1 else y.1 / x.1, 0)) := by
  unfold rtRung
  generalize Lib.trimB l 32 = t
  have hp := partsB_at 58 t
  simp only
  generalize Lib.indexByte t 58 = i at *
  by_cases hi : i < 0
  · rw [hp.1 hi, if_pos hi]
  · obtain ⟨_, h2⟩ := hp.2 (by omega)
    rw [h2, if_neg hi]
    generalize t.drop (i.toNat + 1) = d
    have hq := partsB_at 58 d
    by_cases hj : Lib.indexByte d 58 < 0
    · rw [hq.1 hj]
    · obtain ⟨_, h3⟩ := hq.2 (by omega)
      have hb := colon_bad (index_mem (show 0 ≤ Lib.indexByte d 58 by omega))
      rw [h3, if_pos (Or.inr hb)]
      have hne := partsB_ne 58 (d.drop ((Lib.indexByte d 58).toNat + 1))
      generalize partsB 58 (d.drop ((Lib.indexByte d 58).toNat + 1)) = ps at *
      cases ps with
      | nil => exact absurd rfl hne
      | cons a b => rfl

theorem rtRung_le (l : List UInt8) : (0 ≤ (rtRung l).1 ∧ (rtRung l).1 ≤ 1099511627776) ∧ (0 ≤ (rtRung l).2.1 ∧ (rtRung l).2.1 ≤ 1099511627776) ∧ ((rtRung l).2.2 = 0 ∨ (rtRung l).2.2 = 3 ∨ (rtRung l).2.2 = 7) := by
  unfold rtRung
  split
  · rename_i a b _
    have ha := rtEith_le a
    have hb := rtEith_le b
    split
    · simp
    · split
      · simp
      · rename_i h
        refine ⟨⟨ha.1, ha.2.1⟩, ?_, Or.inl rfl⟩
        simp only
        split
        · exact ⟨hb.1, hb.2.1⟩
        · have : 0 < (rtEith a).1 := by
            have : ¬ (rtEith a).1 = 0 := fun e => h (Or.inr (Or.inr e))
            omega
          exact ⟨Int.ediv_nonneg hb.1 (by omega), Int.le_trans (Int.ediv_le_self _ hb.1) hb.2.1⟩
  · simp

end Go.Proofs.YtaeleljlpcjcdaaGreatDoor
namespace Go.Proofs.YtaeleljlpcjcdaaGreatDoor
open Go Go.Sx

theorem trim_front (c : UInt8) (l : List UInt8) : Lib.trimB (c :: l) c = Lib.trimB l c := by
  unfold Lib.trimB Lib.trimLeftB Lib.trimRightB
  rw [List.reverse_cons, List.dropWhile_append]
  split
  · rename_i h
    have h0 : List.dropWhile (fun x => x == c) l.reverse = [] := by simpa using h
    rw [h0]
    simp
  · rw [List.reverse_append]
    simp

theorem trim_back (c : UInt8) (l : List UInt8) : Lib.trimB (l ++ [c]) c = Lib.trimB l c := by
  unfold Lib.trimB Lib.trimLeftB Lib.trimRightB
  rw [List.reverse_append]
  simp

theorem trim_done (c : UInt8) (l : List UInt8) (h1 : ∀ b, l.head? = some b → b ≠ c) (h2 : ∀ b, l.getLast? = some b → b ≠ c) : Lib.trimB l c = l := by
  unfold Lib.trimB Lib.trimLeftB Lib.trimRightB
  have e1 : l.reverse.dropWhile (fun x => x == c) = l.reverse := by
    cases hr : l.reverse with
    | nil => rfl
    | cons b r =>
      have : l.getLast? = some b := by rw [← List.head?_reverse, hr]; rfl
      have := h2 b this
      rw [List.dropWhile_cons, if_neg (by simpa using this)]
  rw [e1, List.reverse_reverse]
  cases l with
  | nil => rfl
  | cons b r =>
    have := h1 b rfl
    rw [List.dropWhile_cons, if_neg (by simpa using this)]

theorem extract_tail (r : ByteArray) : (r.extract 1 r.size).data.toList = r.data.toList.drop 1 := Lib.extract_to_end ..

theorem f_ref10_trim (s : ByteArray) (hs : s.size ≤ 4611686018427387904) : Meets Tryz.prog E0 n_ref10_trim [Str s] [] (Str ⟨(Lib.trimB s.data.toList 32).toArray⟩) [] := by
  refine st0 m_ref10_trim ?_
  simp only [go_sem, s_ref10_trim]
  refine W_loop (fun r : ByteArray => r.size) (fun r => r.size ≤ s.size ∧ Lib.trimB r.data.toList 32 = Lib.trimB s.data.toList 32) (fun r => [(0, Str r)]) (fun _ => []) s ⟨Nat.le_refl _, rfl⟩ ?_ ?_
  · exact (sR [] [])
  · rintro r ⟨hr, ht⟩
    have hl := ba_len r
    have hg0 := ba_get r 0
    have hcase : r.data.toList = [] ∨ (∃ b l, r.data.toList = b :: l ∧ b ≠ 32) ∨ ∃ l, r.data.toList = 32 :: l := by
      cases r.data.toList with
      | nil => exact Or.inl rfl
      | cons b l =>
        by_cases hb : b = 32
        · subst hb; exact Or.inr (Or.inr ⟨l, rfl⟩)
        · exact Or.inr (Or.inl ⟨b, l, rfl, hb⟩)
    have hhead : (∃ l, r.data.toList = 32 :: l) ∨ ∀ b, r.data.toList.head? = some b → b ≠ 32 := by
      rcases hcase with h | ⟨b, l, h, hb⟩ | h
      · right; rw [h]; simp
      · right; rw [h]; simpa using hb
      · exact Or.inl h
    rcases hcase with h | ⟨b, l, h, hb⟩ | ⟨l, h⟩
    case' refine_2.inl =>
      rw [h] at hl
      have d0 : decide ((0 : Int) < (r.size : Int)) = false := decide_eq_false (by simp at hl; omega)
      simp only [go_sem, d0]
    case' refine_2.inr.inl =>
      rw [h] at hl hg0
      have d0 : decide ((0 : Int) < (r.size : Int)) = true := decide_eq_true (by simp at hl; omega)
      have d1 : decide (b.toNat = 32) = false := decide_eq_false (fun e => hb (UInt8.toNat_inj.1 e))
      simp only [List.getElem?_cons_zero] at hg0
      simp only [go_sem, d0, hg0, d1]
    case' refine_2.inr.inr =>
      rw [h] at hl hg0
      have d0 : decide ((0 : Int) < (r.size : Int)) = true := decide_eq_true (by simp at hl; omega)
      simp only [List.getElem?_cons_zero] at hg0
      have d2 : ((1 : Int) ≤ (r.size : Int)) = True := eq_true (by simp at hl; omega)
      have d3 : decide (UInt8.toNat 32 = 32) = true := rfl
      simp only [go_sem, d0, hg0, d2, d3]
      have et : (r.extract 1 r.size).data.toList = l := by rw [extract_tail, h]; rfl
      have ez : (r.extract 1 r.size).size = l.length := by rw [← ba_len, et]
      refine rd_of (r.extract 1 r.size) (by rw [ez]; simp at hl; omega) ⟨by rw [ez]; simp at hl; omega, ?_⟩ ?_
      · rw [et, ← trim_front, ← h]; exact ht
      · exact (sR [] [])
    all_goals
      have hh : ∀ b, r.data.toList.head? = some b → b ≠ 32 := by
        rcases hhead with ⟨l', h'⟩ | h'
        · first
            | (rw [h] at h'; cases h'; done)
            | (rw [h] at h'; injection h' with h1 h2; exact absurd h1 hb)
        · exact h'
      refine W_loop (fun q : ByteArray => q.size) (fun q => q.size ≤ s.size ∧ Lib.trimB q.data.toList 32 = Lib.trimB s.data.toList 32 ∧ ∀ b, q.data.toList.head? = some b → b ≠ 32) (fun q => [(0, Str q)]) (fun _ => []) r ⟨hr, ht, hh⟩ (sR [] []) ?_
      clear hh ht hr hhead hg0 hl
      rintro q ⟨hq, ht, hh⟩
      have hl := ba_len q
      by_cases hn : q.data.toList = []
      · have ez : q.size = 0 := by rw [hn] at hl; exact hl.symm
        have d0 : decide ((0 : Int) < (q.size : Int)) = false := decide_eq_false (by omega)
        have hv : (⟨(Lib.trimB s.data.toList 32).toArray⟩ : ByteArray) = q := by
          rw [← ht, trim_done 32 _ hh (by rw [hn]; simp)]
        simp only [go_sem, d0]
        rw [hv]
        refine wE ?_
        simp only [go_sem, r_ref10_trim]
      · obtain ⟨i, b, hi⟩ := snoc_of hn
        rw [hi] at hl
        simp only [List.length_append, List.length_cons, List.length_nil] at hl
        have d0 : decide ((0 : Int) < (q.size : Int)) = true := decide_eq_true (by omega)
        have e1 : IntKind.i64.wrap ((q.size : Int) - 1) = (i.length : Int) := by rw [wrap_i64_of (by omega) (by omega)]; omega
        have hg : q[i.length]? = some b := by rw [ba_get, hi]; simp
        have d2 : ((i.length : Int) ≤ (q.size : Int)) = True := eq_true (by omega)
        by_cases hb : b = 32
        · subst hb
          have d3 : decide (UInt8.toNat 32 = 32) = true := rfl
          simp only [go_sem, d0, e1, hg, d2, d3]
          have et : (q.extract 0 i.length).data.toList = i := by rw [← take_bytes, hi]; simp
          have ez : (q.extract 0 i.length).size = i.length := by rw [← ba_len, et]
          refine rd_of (q.extract 0 i.length) (by rw [ez]; omega) ⟨by rw [ez]; omega, ?_, ?_⟩ ?_
          · rw [et, ← trim_back, ← hi]; exact ht
          · rw [et]; intro b hb; refine hh b ?_
            rw [hi]
            cases i with
            | nil => cases hb
            | cons a i => exact hb
          · exact (sR [] [])
        · have d1 : decide (b.toNat = 32) = false := decide_eq_false (fun e => hb (UInt8.toNat_inj.1 e))
          have hv : (⟨(Lib.trimB s.data.toList 32).toArray⟩ : ByteArray) = q := by
            rw [← ht, trim_done 32 _ hh (by rw [hi]; simpa using hb)]
          simp only [go_sem, d0, e1, hg, d1]
          rw [hv]
          refine wE ?_
          simp only [go_sem, r_ref10_trim]

end Go.Proofs.YtaeleljlpcjcdaaGreatDoor
namespace Go.Proofs.YtaeleljlpcjcdaaGreatDoor
open Go Go.Sx

def toB (l : List UInt8) : ByteArray := ⟨l.toArray⟩

def rowS (x : ByteArray) : List T := [.v (.string x)]

theorem sR_RtSplit2 {io : List Nat} {env : List (Nat × AV)} {sto : List (Nat × Ob)} {env' : List (Nat × AV)} {sto' : List (Nat × Ob)} (rn : List (Nat × Nat)) (sn : List Nat)
    (h1 : envS sto sn rn env sto' env' := by simp [envS, go_sem, wkV, wkL, AV.ids, idsL, keysOf, ren, stoOf, slTrees, AV.asOwn, rowPart, AV.isNil, shA, rowsT, cellsT, cellT, wkLL, rowS] <;> assumption)
    (h2 : stoS sto sn rn sto' sto' := by simp [stoS, go_sem, wkV, wkL, wkO, AV.ids, Ob.ids, idsL, keysOf, ren, AV.one, stoOf, slTrees, AV.asOwn, rowPart, AV.isNil, shA, rowsT, cellsT, cellT, wkLL, rowS] <;> assumption)
    (h3 : ((keysOf sto').map (ren rn)).Nodup := by simp [keysOf, ren]) (h4 : ∀ i ∈ sn, 100 ≤ i ∧ isRow (stoOf sto i) = true ∧ ∀ j ∈ keysOf sto', ren rn j ≠ i := by simp [stoOf, keysOf, ren])
    (h5 : ∀ i ∈ io, ren rn i = i := by simp [keysOf, ren]) (h6 : ∀ i ∈ keysOf sto', ren rn i ∈ io → i = ren rn i := by simp [keysOf, ren]) :
    Sub io ⟨envOf env, stoOf sto⟩ ⟨envOf env', stoOf sto'⟩ := subL rn sn h1 h2 h3 h4 h5 h6

theorem rowS_get (x : ByteArray) : (rowS x)[0]? = some (.v (.string x)) := rfl

/-- A text's parts, as a row of strings. -/
def partsV (c : UInt8) (l : List UInt8) : AV := .t (.sl 1 ((partsB c l).map fun x => rowS (toB x)))

theorem toB_data (l : List UInt8) : (toB l).data.toList = l := rfl

theorem toB_app (x : ByteArray) (a : UInt8) (l : List UInt8) : x ++ toB [a] ++ toB l = x ++ toB (a :: l) := by
  apply bytes_ext
  simp [toB]

theorem toB_nil (x : ByteArray) : x ++ toB [] = x := by
  apply bytes_ext
  simp [toB]

theorem nil_toB (l : List UInt8) : bs [] ++ toB l = toB l := by
  apply bytes_ext
  simp [toB, bs]

theorem toB_cons (a : UInt8) (l : List UInt8) : toB [a] ++ toB l = toB (a :: l) := by
  apply bytes_ext
  simp [toB]

theorem toB_append (a l : List UInt8) : toB a ++ toB l = toB (a ++ l) := by
  apply bytes_ext
  simp [toB]

theorem strT (l : List UInt8) : binStr .eql (toB l) (bs []) = some (.bool (l.isEmpty)) := by
  have hn : (bs []).toList = [] := by rw [Lib.toList_data]; rfl
  simp only [binStr]
  congr 2
  rw [hn, Lib.toList_data, toB_data]
  cases l <;> rfl

theorem addT (a l : List UInt8) (h : a.length + l.length ≤ 9223372036854775807) : binStr .add (toB a) (toB l) = some (.string (toB (a ++ l))) := by
  have e1 : (toB a).size = a.length := rfl
  have e2 : (toB l).size = l.length := rfl
  have em : IntKind.i64.max = 9223372036854775807 := rfl
  simp only [binStr, e1, e2, em]
  rw [if_neg (by omega), toB_append]

theorem eqN (b c : UInt8) : decide (b.toNat = c.toNat) = (b == c) := by
  by_cases h : b = c
  · subst h; simp
  · rw [decide_eq_false (fun e => h (UInt8.toNat_inj.1 e))]; symm; simpa using h

/-- What is still to come, behind what stands. -/
def tailP (c : UInt8) (cur : ByteArray) (rest : List UInt8) : List ByteArray := match partsB c rest with
  | p :: ps => (cur ++ toB p) :: ps.map toB
  | [] => []

theorem tailP_nil (c : UInt8) (cur : ByteArray) : tailP c cur [] = [cur] := by simp [tailP, partsB, toB_nil]

theorem tailP_at (c : UInt8) (cur : ByteArray) (rest : List UInt8) : tailP c cur (c :: rest) = cur :: tailP c (bs []) rest := by
  have hne := partsB_ne c rest
  unfold tailP
  simp only [partsB, if_pos]
  generalize partsB c rest = ps at *
  cases ps with
  | nil => exact absurd rfl hne
  | cons p ps => simp [toB_nil, nil_toB]

theorem tailP_on (c b : UInt8) (cur : ByteArray) (rest : List UInt8) (h : ¬ b = c) : tailP c cur (b :: rest) = tailP c (cur ++ toB [b]) rest := by
  have hne := partsB_ne c rest
  unfold tailP
  simp only [partsB, if_neg h]
  generalize partsB c rest = ps at *
  cases ps with
  | nil => exact absurd rfl hne
  | cons p ps => simp [toB_app]

theorem extract_one {s : ByteArray} {b : UInt8} {p : Nat} (h : s[p]? = some b) : s.extract p (p + 1) = toB [b] := by
  apply bytes_ext
  rw [ba_get] at h
  obtain ⟨hi, hb⟩ := List.getElem?_eq_some_iff.1 h
  have : (s.extract p (p + 1)).data.toList = (s.data.toList.drop p).take 1 := by
    simp [ByteArray.extract, ByteArray.copySlice]
  rw [this, toB_data, ← hb, List.drop_eq_getElem_cons hi]
  simp

theorem f_ref10_split (s : ByteArray) (c : UInt8) (hs : s.size ≤ 1000000) : Meets Tryz.prog E0 n_ref10_split [Str s, B8 c.toNat] [] (partsV c s.data.toList) [] := by
  refine st0 m_ref10_split ?_
  simp only [go_sem, s_ref10_split]
  have hL := ba_len s
  refine W_loop (fun i : List ByteArray × ByteArray × List UInt8 => i.2.2.length) (fun i => Suf s i.2.2 ∧ (i.1.length + i.2.2.length ≤ s.size ∧ i.2.1.size + i.2.2.length ≤ s.size) ∧ (partsB c s.data.toList).map toB = i.1 ++ tailP c i.2.1 i.2.2)
    (fun i => [(0, Str s), (1, B8 c.toNat), (5, .own 999 1 0 (i.1.length + 1) true), (6, I ((s.size - i.2.2.length : Nat)))]) (fun i => [(999, .row 1 true ((i.1 ++ [i.2.1]).map rowS))])
    ([], bs [], s.data.toList) ⟨Suf.all s, ⟨by simp, by have : (bs []).size = 0 := rfl; simp only [hL]; omega⟩, ?_⟩ ?_ ?_
  · have hne := partsB_ne c s.data.toList
    unfold tailP
    generalize partsB c s.data.toList = ps at *
    cases ps with
    | nil => exact absurd rfl hne
    | cons p ps => simp [nil_toB]
  · rw [hL, Nat.sub_self]
    exact (sR_RtSplit2 [(999, 101)] [])
  · rintro ⟨pre, cur, rest⟩ ⟨hsuf, ⟨hz1, hz2⟩, hinv⟩
    simp only at hsuf hz1 hz2 hinv
    have hl := hsuf.len
    have hg := hsuf.get 0
    simp only [Nat.add_zero] at hg
    cases rest with
    | nil =>
      simp only [List.length_nil, Nat.sub_zero]
      have d0 : decide (s.size < s.size) = false := decide_eq_false (by omega)
      have hv : partsV c s.data.toList = .t (.sl 1 ((pre ++ [cur]).map rowS)) := by
        unfold partsV
        rw [tailP_nil] at hinv
        rw [← hinv, List.map_map]; rfl
      rw [hv]
      simp only [go_sem, d0]
      refine wS [999] ?_
      simp only [go_sem, r_ref10_split, exists_eq_left', Option.some.injEq]
      simp [wkV, wkL, slTrees, AV.asOwn, rowPart, stoOf, AV.isNil, shA, rowsT, cellsT, cellT, List.take_of_length_le]
    | cons b rest =>
      simp only [List.length_cons] at hl hg hz1 hz2 ⊢
      obtain ⟨p, hp⟩ : ∃ p, s.size - (rest.length + 1) = p := ⟨_, rfl⟩
      rw [hp] at hg ⊢
      simp only [List.getElem?_cons_zero] at hg
      have d0 : decide (p < s.size) = true := decide_eq_true (by omega)
      have ei : IntKind.i64.wrap ((p : Int) + 1) = ((s.size - rest.length : Nat) : Int) := by rw [wrap_i64_of (by omega) (by omega)]; omega
      by_cases hb : b = c
      · subst hb
        rw [tailP_at] at hinv
        have d1 : ∀ i : Int, decide (i = i) = true := fun i => decide_eq_true rfl
        have b4 : (pre.length + 1 + 1) * 16 ≤ 2 ^ 47 := by omega
        have b5 : pre.length + 1 + 1 < 2 ^ 47 := by omega
        have em : (pre ++ [cur]).map rowS ++ [[.v (.string (bs []))]] = ((pre ++ [cur]) ++ [bs []]).map rowS := by simp [rowS]
        have hlen : ((pre ++ [cur]).map rowS).length = pre.length + 1 := by simp
        simp only [go_sem, d0, hg, d1, ei, b4, b5, em, hlen]
        refine rd_of (pre ++ [cur], bs [], rest) (by simp) ⟨hsuf.tail, ⟨by simp; omega, ?_⟩, ?_⟩ ?_
        · have : (bs []).size = 0 := rfl
          simp only; omega
        · simp only; rw [hinv]; simp
        · simp only [List.length_append, List.length_cons, List.length_nil, Nat.zero_add]
          exact (sR_RtSplit2 [(999, 115)] [])
      · rw [tailP_on c b cur rest hb] at hinv
        have d1 : decide (b.toNat = c.toNat) = false := decide_eq_false (fun e => hb (UInt8.toNat_inj.1 e))
        have e1 : IntKind.i64.wrap (((pre.length + 1 : Nat) : Int) - 1) = (pre.length : Int) := by rw [wrap_i64_of (by omega) (by omega)]; omega
        have e2 : IntKind.i64.wrap ((p : Int) + 1) = ((p + 1 : Nat) : Int) := by rw [wrap_i64_of (by omega) (by omega)]; omega
        have ei' : ((p + 1 : Nat) : Int) = ((s.size - rest.length : Nat) : Int) := by omega
        have hlt : ((pre.length : Int) < ((pre.length + 1 : Nat) : Int)) = True := eq_true (by omega)
        have hget : ((pre ++ [cur]).map rowS)[pre.length]? = some [.v (.string cur)] := by simp [rowS]
        have hset : ∀ x, ((pre ++ [cur]).map rowS).set pre.length [.v (.string x)] = ((pre ++ [x]).map rowS) := by intro x; simp [rowS]
        have hx := extract_one hg
        have hadd : binStr .add cur (toB [b]) = some (.string (cur ++ toB [b])) := by
          have e : (toB [b]).size = 1 := rfl
          have em : IntKind.i64.max = 9223372036854775807 := rfl
          simp only [binStr, e, em]
          rw [if_neg (by omega)]
        have c1 : ((p : Int) ≤ ((p + 1 : Nat) : Int)) = True := eq_true (by omega)
        have c2 : (((p + 1 : Nat) : Int) ≤ (s.size : Int)) = True := eq_true (by omega)
        simp only [go_sem, d0, hg, d1, e1, e2, hlt, hget, hset, hx, hadd, c1, c2]
        ((try (with_reducible refine rF ?_)); (try simp only [go_sem, d0, hg, d1, e1, e2, hlt, hget, hset, hx, hadd, c1, c2]))
        have : (toB [b]).size = 1 := rfl
        have hsz : (cur ++ toB [b]).size = cur.size + 1 := by rw [ByteArray.size_append, this]
        refine rd_of (pre, cur ++ toB [b], rest) (by simp) ⟨hsuf.tail, ⟨by simp only; omega, by simp only [hsz]; omega⟩, hinv⟩ ?_
        rw [ei']
        exact (sR_RtSplit2 [(999, 999)] [])

end Go.Proofs.YtaeleljlpcjcdaaGreatDoor
namespace Go.Proofs.YtaeleljlpcjcdaaGreatDoor
open Go Go.Sx

theorem toB_size (l : List UInt8) : (toB l).size = l.length := rfl

theorem eqT (a b : List UInt8) : binStr .eql (toB a) (toB b) = some (.bool (a == b)) := by
  simp only [binStr]
  congr 2
  rw [Lib.toList_data, Lib.toList_data, toB_data, toB_data]

theorem neT (a b : List UInt8) : binStr .neq (toB a) (toB b) = some (.bool (!(a == b))) := by
  simp only [binStr]
  congr 2
  rw [Lib.toList_data, Lib.toList_data, toB_data, toB_data]

theorem extT (l : List UInt8) (a b : Nat) : (toB l).extract a b = toB ((l.take b).drop a) := by
  apply bytes_ext
  have : ((toB l).extract a b).data.toList = (l.drop a).take (b - a) := by
    simp [ByteArray.extract, ByteArray.copySlice, toB]
  rw [this, toB_data, List.drop_take]

theorem getT (l : List UInt8) (i : Nat) : (toB l)[i]? = l[i]? := by rw [ba_get, toB_data]

/-- Without a last byte of a kind. -/
def stripB (c : UInt8) (l : List UInt8) : List UInt8 := if l.getLast? = some c then l.dropLast else l

def lastB (c : UInt8) (l : List UInt8) : Bool := l.getLast? == some c
def headB (c : UInt8) (l : List UInt8) : Bool := l.head? == some c

theorem last_snoc (c b : UInt8) (i : List UInt8) : lastB c (i ++ [b]) = (b == c) := by
  unfold lastB
  rw [List.getLast?_concat]
  rfl

theorem strip_eq (c : UInt8) (l : List UInt8) : stripB c l = if lastB c l then l.dropLast else l := by
  unfold stripB lastB
  by_cases h : l.getLast? = some c <;> simp [h]

theorem bs1 (c : UInt8) : bs [c] = toB [c] := rfl

theorem f_HasSuffix (l : List UInt8) (c : UInt8) (hl : l.length ≤ 4611686018427387904) : Meets Tryz.prog E0 n_stringslite_HasSuffix [Str (toB l), Str (toB [c])] [] (Bo (lastB c l)) [] := by
  refine st0 m_stringslite_HasSuffix ?_
  by_cases h : l = []
  · subst h
    have d : decide (((1 : Nat) : Int) ≤ ((0 : Nat) : Int)) = false := rfl
    simp only [go_sem, s_stringslite_HasSuffix, toB_size, d]
    refine wE ?_
    simp only [go_sem, r_stringslite_HasSuffix]
    rfl
  · obtain ⟨i, b, rfl⟩ := snoc_of h
    rw [last_snoc]
    simp only [List.length_append, List.length_cons, List.length_nil, Nat.zero_add] at hl
    have hs : (i ++ [b]).length = i.length + 1 := by simp
    have d : decide (((1 : Nat) : Int) ≤ ((i.length + 1 : Nat) : Int)) = true := decide_eq_true (by omega)
    have w : IntKind.i64.wrap (((i.length + 1 : Nat) : Int) - ((1 : Nat) : Int)) = (i.length : Int) := by rw [wrap_i64_of (by omega) (by omega)]; omega
    have c1 : ((i.length : Int) ≤ ((i.length + 1 : Nat) : Int)) = True := eq_true (by omega)
    have e : (toB (i ++ [b])).extract i.length (i.length + 1) = toB [b] := by
      rw [extT, List.take_of_length_le (by simp), List.drop_left]
    have q : binStr .eql (toB [b]) (toB [c]) = some (.bool (b == c)) := by rw [eqT]; simp
    simp only [go_sem, s_stringslite_HasSuffix, toB_size, hs, d, w, c1, e, q]
    refine wE ?_
    simp only [go_sem, r_stringslite_HasSuffix]

theorem f_TrimSuffix (l : List UInt8) (c : UInt8) (hl : l.length ≤ 4611686018427387904) : Meets Tryz.prog E0 n_strings_TrimSuffix [Str (toB l), Str (toB [c])] [] (Str (toB (stripB c l))) [] := by
  have h0 : Meets Tryz.prog E0 n_stringslite_TrimSuffix [Str (toB l), Str (toB [c])] [] (Str (toB (stripB c l))) [] := by
    refine st0 m_stringslite_TrimSuffix ?_
    have hS := f_HasSuffix l c hl
    rw [strip_eq]
    simp only [go_sem, s_stringslite_TrimSuffix]
    refine Cl_plain hS ?_
    cases hb : lastB c l
    · simp only [go_sem]
      refine wE ?_
      simp only [go_sem, r_stringslite_TrimSuffix]
      first | done | rfl
    · by_cases h : l = []
      · subst h; cases hb
      · obtain ⟨i, b, rfl⟩ := snoc_of h
        simp only [List.length_append, List.length_cons, List.length_nil, Nat.zero_add] at hl
        have hs : (i ++ [b]).length = i.length + 1 := by simp
        have w : IntKind.i64.wrap (((i.length + 1 : Nat) : Int) - ((1 : Nat) : Int)) = (i.length : Int) := by rw [wrap_i64_of (by omega) (by omega)]; omega
        have c1 : ((i.length : Int) ≤ ((i.length + 1 : Nat) : Int)) = True := eq_true (by omega)
        have e : (toB (i ++ [b])).extract 0 i.length = toB i := by rw [extT, List.take_left]; rfl
        have e2 : (i ++ [b]).dropLast = i := List.dropLast_concat
        rw [e2]
        simp only [go_sem, toB_size, hs, w, c1, e]
        refine wE ?_
        simp only [go_sem, r_stringslite_TrimSuffix]
        first | done | rfl
  refine st0 m_strings_TrimSuffix ?_
  simp only [go_sem, s_strings_TrimSuffix]
  refine Cl_plain h0 ?_
  simp only [go_sem]
  refine wE ?_
  simp only [go_sem, r_strings_TrimSuffix]

theorem f_CutSuffix (l : List UInt8) (c : UInt8) (hl : l.length ≤ 4611686018427387904) : Meets Tryz.prog E0 n_strings_CutSuffix [Str (toB l), Str (toB [c])] [] (.tp [Str (toB (stripB c l)), Bo (lastB c l)]) [] := by
  have h0 : Meets Tryz.prog E0 n_stringslite_CutSuffix [Str (toB l), Str (toB [c])] [] (.tp [Str (toB (stripB c l)), Bo (lastB c l)]) [] := by
    refine st0 m_stringslite_CutSuffix ?_
    have hS := f_HasSuffix l c hl
    rw [strip_eq]
    simp only [go_sem, s_stringslite_CutSuffix]
    refine Cl_plain hS ?_
    cases hb : lastB c l
    · simp only [go_sem]
      refine wE ?_
      simp only [go_sem, r_stringslite_CutSuffix]
      first | done | rfl
    · by_cases h : l = []
      · subst h; cases hb
      · obtain ⟨i, b, rfl⟩ := snoc_of h
        simp only [List.length_append, List.length_cons, List.length_nil, Nat.zero_add] at hl
        have hs : (i ++ [b]).length = i.length + 1 := by simp
        have w : IntKind.i64.wrap (((i.length + 1 : Nat) : Int) - ((1 : Nat) : Int)) = (i.length : Int) := by rw [wrap_i64_of (by omega) (by omega)]; omega
        have c1 : ((i.length : Int) ≤ ((i.length + 1 : Nat) : Int)) = True := eq_true (by omega)
        have e : (toB (i ++ [b])).extract 0 i.length = toB i := by rw [extT, List.take_left]; rfl
        have e2 : (i ++ [b]).dropLast = i := List.dropLast_concat
        rw [e2]
        simp only [go_sem, toB_size, hs, w, c1, e]
        refine wE ?_
        simp only [go_sem, r_stringslite_CutSuffix]
        first | done | rfl
  refine st0 m_strings_CutSuffix ?_
  simp only [go_sem, s_strings_CutSuffix]
  refine Cl_plain h0 ?_
  simp only [go_sem]
  refine wE ?_
  simp only [go_sem, r_strings_CutSuffix]

theorem f_HasPrefix (l : List UInt8) (c : UInt8) (hl : l.length ≤ 4611686018427387904) : Meets Tryz.prog E0 n_stringslite_HasPrefix [Str (toB l), Str (toB [c])] [] (Bo (headB c l)) [] := by
  refine st0 m_stringslite_HasPrefix ?_
  cases l with
  | nil =>
    have d : decide (((1 : Nat) : Int) ≤ ((0 : Nat) : Int)) = false := rfl
    simp only [go_sem, s_stringslite_HasPrefix, toB_size, d]
    refine wE ?_
    simp only [go_sem, r_stringslite_HasPrefix]
    rfl
  | cons b r =>
    have e0 : headB c (b :: r) = (b == c) := rfl
    rw [e0]
    have hs : (b :: r).length = r.length + 1 := rfl
    have d : decide (((1 : Nat) : Int) ≤ ((r.length + 1 : Nat) : Int)) = true := decide_eq_true (by omega)
    have c1 : (((1 : Nat) : Int) ≤ ((r.length + 1 : Nat) : Int)) = True := eq_true (by omega)
    have e : (toB (b :: r)).extract 0 1 = toB [b] := by rw [extT]; rfl
    have q : binStr .eql (toB [b]) (toB [c]) = some (.bool (b == c)) := by rw [eqT]; simp
    simp only [go_sem, s_stringslite_HasPrefix, toB_size, hs, d, c1, e, q]
    refine wE ?_
    simp only [go_sem, r_stringslite_HasPrefix]

/-- Without a first byte of a kind. -/
def frontB (c : UInt8) (l : List UInt8) : List UInt8 := if headB c l then l.tail else l

theorem f_CutPrefix (l : List UInt8) (c : UInt8) (hl : l.length ≤ 4611686018427387904) : Meets Tryz.prog E0 n_strings_CutPrefix [Str (toB l), Str (toB [c])] [] (.tp [Str (toB (frontB c l)), Bo (headB c l)]) [] := by
  have h0 : Meets Tryz.prog E0 n_stringslite_CutPrefix [Str (toB l), Str (toB [c])] [] (.tp [Str (toB (frontB c l)), Bo (headB c l)]) [] := by
    refine st0 m_stringslite_CutPrefix ?_
    have hS := f_HasPrefix l c hl
    unfold frontB
    simp only [go_sem, s_stringslite_CutPrefix]
    refine Cl_plain hS ?_
    cases hb : headB c l
    · simp only [go_sem]
      refine wE ?_
      simp only [go_sem, r_stringslite_CutPrefix]
      first | done | rfl
    · cases l with
      | nil => cases hb
      | cons b r =>
        have hs : (b :: r).length = r.length + 1 := rfl
        have c1 : (((1 : Nat) : Int) ≤ ((r.length + 1 : Nat) : Int)) = True := eq_true (by omega)
        have e : (toB (b :: r)).extract 1 (r.length + 1) = toB r := by rw [extT, List.take_of_length_le (by simp)]; rfl
        simp only [go_sem, toB_size, hs, c1, e]
        refine wE ?_
        simp only [go_sem, r_stringslite_CutPrefix]
        first | done | rfl
  refine st0 m_strings_CutPrefix ?_
  simp only [go_sem, s_strings_CutPrefix]
  refine Cl_plain h0 ?_
  simp only [go_sem]
  refine wE ?_
  simp only [go_sem, r_strings_CutPrefix]

end Go.Proofs.YtaeleljlpcjcdaaGreatDoor
namespace Go.Proofs.YtaeleljlpcjcdaaGreatDoor
open Go Go.Sx

/-- Without blanks and tabs around it. -/
def cfTrim (l : List UInt8) : List UInt8 := Lib.trimS l [32, 9]

def cfLine (l : List UInt8) : List UInt8 := cfTrim (stripB 13 l)

/-- Is a line not idle? -/
def cfKeep (l : List UInt8) : Bool := match l with
  | [] => false
  | b :: _ => !(b == 35) && !(b == 59)

def cfLines (l : List UInt8) : List (List UInt8) := ((partsB 10 l).map cfLine).filter cfKeep

def cfNamed (l : List UInt8) : Bool := decide (1 ≤ l.length) && decide (l.length ≤ 32) && !l.contains 93

def letterB (b : UInt8) : Bool := (decide (97 ≤ b.toNat) && decide (b.toNat ≤ 122)) || (decide (65 ≤ b.toNat) && decide (b.toNat ≤ 90))

def cfKeyed (l : List UInt8) : Bool := decide (1 ≤ l.length) && decide (l.length ≤ 32) && l.all letterB

/-- The name of a line that begins a section, and whether it does. -/
def cfSecN (l : List UInt8) : List UInt8 := stripB 93 (frontB 91 l)
def cfSecB (l : List UInt8) : Bool := headB 91 l && (lastB 93 (frontB 91 l) && cfNamed (cfSecN l))

abbrev CfPair := List UInt8 × List UInt8
abbrev CfSec := List UInt8 × List CfPair

/-- A line's key and value, and whether it says them. -/
def cfPair (l : List UInt8) : CfPair × Bool :=
  if 0 ≤ Lib.indexByte l 61 then ((cfTrim (l.take (Lib.indexByte l 61).toNat), cfTrim (l.drop ((Lib.indexByte l 61).toNat + 1))), cfKeyed (cfTrim (l.take (Lib.indexByte l 61).toNat))) else ((cfTrim l, []), false)

def cfGet : List CfPair → List UInt8 → Option (List UInt8)
  | [], _ => none
  | p :: ps, k => if p.1 = k then some p.2 else cfGet ps k

def cfHas : List CfSec → List UInt8 → Bool
  | [], _ => false
  | s :: ss, n => (s.1 == n) || cfHas ss n

/-- Sections that stand, and the last one. -/
abbrev CfSt := Option (List CfSec × List UInt8 × List CfPair)

def cfAll : CfSt → List CfSec
  | none => []
  | some (d, n, ks) => d ++ [(n, ks)]

/-- One line more; how it fails. -/
def cfStep (st : CfSt) (l : List UInt8) : Except Int CfSt :=
  if cfSecB l then
    (if cfHas (cfAll st) (cfSecN l) then .error 5 else if (cfAll st).length = 16 then .error 11 else .ok (some (cfAll st, cfSecN l, [])))
  else match st with
    | none => .error 7
    | some (d, n, ks) => if (cfPair l).2 = false then .error 7 else if (cfGet ks (cfPair l).1.1).isSome then .error 5 else if ks.length = 16 then .error 11 else .ok (some (d, n, ks ++ [(cfPair l).1]))

def cfGo : List (List UInt8) → CfSt → Except Int CfSt
  | [], st => .ok st
  | l :: ls, st => match cfStep st l with
    | .error e => .error e
    | .ok st => cfGo ls st

/-- A configuration; how it fails. -/
def cfParse (t : List UInt8) : List CfSec × Int := if 4096 < t.length then ([], 12) else match cfGo (cfLines t) none with
  | .error e => ([], e)
  | .ok st => (cfAll st, 0)

def pairT (p : CfPair) : List T := [.v (.string (toB p.1)), .v (.string (toB p.2))]
def secT (s : CfSec) : List T := [.v (.string (toB s.1)), .sl 2 (s.2.map pairT)]
def secsV (l : List CfSec) : AV := .t (.sl 2 (l.map secT))
def linesV (l : List (List UInt8)) : AV := .t (.sl 1 (l.map fun x => rowS (toB x)))

theorem cfHas_app (a b : List CfSec) (n : List UInt8) : cfHas (a ++ b) n = (cfHas a n || cfHas b n) := by
  induction a with
  | nil => rfl
  | cons s a ih => simp only [List.cons_append, cfHas, ih, Bool.or_assoc]

theorem letter_eq (b : UInt8) : (decide (97 ≤ (b.toNat ||| 32)) && decide ((b.toNat ||| 32) ≤ 122)) = letterB b := by
  have h := (by decide +kernel : ∀ n : Fin 256, (decide (97 ≤ ((UInt8.ofNat n.1).toNat ||| 32)) && decide (((UInt8.ofNat n.1).toNat ||| 32) ≤ 122)) = letterB (UInt8.ofNat n.1))
  have := h ⟨b.toNat, u8_lt b⟩
  simpa using this

theorem trimS_len (l cs : List UInt8) : (Lib.trimS l cs).length ≤ l.length := by
  unfold Lib.trimS Lib.trimLeftS Lib.trimRightS
  refine Nat.le_trans (List.dropWhile_suffix _).length_le ?_
  rw [List.length_reverse]
  refine Nat.le_trans (List.dropWhile_suffix _).length_le ?_
  rw [List.length_reverse]; exact Nat.le_refl _

theorem strip_len (c : UInt8) (l : List UInt8) : (stripB c l).length ≤ l.length := by
  unfold stripB; split
  · simp
  · exact Nat.le_refl _

theorem front_len (c : UInt8) (l : List UInt8) : (frontB c l).length ≤ l.length := by
  unfold frontB; split
  · simp
  · exact Nat.le_refl _

theorem line_len (l : List UInt8) : (cfLine l).length ≤ l.length := Nat.le_trans (trimS_len _ _) (strip_len 13 l)

theorem lines_len (t : List UInt8) : (cfLines t).length ≤ t.length + 1 ∧ ∀ l ∈ cfLines t, l.length ≤ t.length := by
  have h := parts_sum 10 t
  unfold cfLines
  refine ⟨?_, fun l hl => ?_⟩
  · refine Nat.le_trans (List.length_filter_le _ _) ?_
    rw [List.length_map]; exact h.1
  · obtain ⟨h1, _⟩ := List.mem_filter.1 hl
    obtain ⟨p, hp, rfl⟩ := List.mem_map.1 h1
    exact Nat.le_trans (line_len p) (h.2 p hp)

end Go.Proofs.YtaeleljlpcjcdaaGreatDoor
namespace Go.Proofs.YtaeleljlpcjcdaaGreatDoor
open Go Go.Sx Go.RowKit Go.Shelf

theorem f_Trim_blank (l : List UInt8) (hl : l.length ≤ 9223372036854775807) : Meets Tryz.prog E0 n_strings_Trim [Str (toB l), Str (toB [32, 9])] [] (Str (toB (cfTrim l))) [] := by
  refine meets_lib (vals := [.string (toB l), .string (toB [32, 9])]) (v := .string (toB (cfTrim l))) (enters_of Tryz.func110 (by kernel_rfl) rfl) (fun A φ w => by simp only [CA, CT]; exact ⟨trivial, rfl⟩) rfl ?_
  intro w hE
  refine Calls.mono (Go.Proofs.Any.strings_Trim_laid Go.Proofs.Tryz.laysTrim (by kernel_rfl) (toB l) (toB [32, 9]) w hl (by decide) (ascii_of_all (by decide))) ?_
  rintro e w' ⟨rfl, hb⟩
  exact ⟨rfl, grown_of_below hb (fun h => h)⟩

theorem f_config_trim (l : List UInt8) (hl : l.length ≤ 4611686018427387904) : Meets Tryz.prog E0 n_config_trim [Str (toB l)] [] (Str (toB (cfTrim l))) [] := by
  refine st0 m_config_trim ?_
  simp only [go_sem, s_config_trim]
  refine Cl_plain (f_Trim_blank l (by omega)) ?_
  simp only [go_sem]
  refine wE ?_
  simp only [go_sem, r_config_trim]

theorem neE (l : List UInt8) : binStr .neq (toB l) (bs []) = some (.bool (!l.isEmpty)) := by
  have hn : (bs []).toList = [] := by rw [Lib.toList_data]; rfl
  simp only [binStr]
  congr 2
  rw [hn, Lib.toList_data, toB_data]
  cases l <;> rfl

theorem mem_index (l : List UInt8) (c : UInt8) : decide (Lib.indexByte l c < 0) = !l.contains c := by
  by_cases h : l.contains c = true
  · rw [h]
    have hm : c ∈ l := by simpa using h
    refine decide_eq_false (fun hlt => ?_)
    have := (partsB_at c l).1 hlt
    have h2 : ∀ l : List UInt8, c ∈ l → partsB c l ≠ [l] := by
      intro l
      induction l with
      | nil => simp
      | cons b l ih =>
        intro hm
        simp only [partsB]
        by_cases hb : b = c
        · rw [if_pos hb]
          intro e; injection e with e1 e2; cases e1
        · rw [if_neg hb]
          have hm' : c ∈ l := by
            rcases List.mem_cons.1 hm with h | h
            · exact absurd h.symm hb
            · exact h
          have := ih hm'
          have hne := partsB_ne c l
          generalize partsB c l = ps at *
          cases ps with
          | nil => exact absurd rfl hne
          | cons p ps =>
            intro e
            injection e with e1 e2
            injection e1 with e3 e4
            exact this (by rw [e4, e2])
    exact h2 l hm this
  · have h' : l.contains c = false := by simpa using h
    rw [h']
    refine decide_eq_true ?_
    apply Decidable.byContradiction
    intro hlt
    have := index_mem (show 0 ≤ Lib.indexByte l c by omega)
    simp at h'
    exact h' this

theorem f_config_named (l : List UInt8) (hl : l.length ≤ 4611686018427387904) : Meets Tryz.prog E0 n_config_named [Str (toB l)] [] (Bo (cfNamed l)) [] := by
  refine st0 m_config_named ?_
  have en := neE l
  have hix : Meets Tryz.prog E0 n_strings_IndexByte [Str (toB l), B8 (UInt8.toNat 93)] [] (I (Lib.indexByte l 93)) [] := f_IndexByte (toB l) 93
  have hm := mem_index l 93
  have e93 : ((UInt8.toNat 93 : Nat) : Int) = 93 := rfl
  unfold cfNamed
  cases l with
  | nil =>
    simp only [go_sem, s_config_named, en, List.isEmpty_nil]
    refine wE ?_
    simp only [go_sem, r_config_named]
    first | done | rfl
  | cons b r =>
    have hs : (b :: r).length = r.length + 1 := rfl
    have d1 : decide (1 ≤ r.length + 1) = true := decide_eq_true (by omega)
    rw [hs, d1]
    cases d2 : decide ((r.length + 1) ≤ 32)
    · have d3 : decide (((r.length + 1 : Nat) : Int) ≤ 32) = false := decide_eq_false (by have := of_decide_eq_false d2; omega)
      simp only [go_sem, s_config_named, en, List.isEmpty_cons, toB_size, hs, d3]
      refine wE ?_
      simp only [go_sem, r_config_named]
      first | done | rfl
    · have d3 : decide (((r.length + 1 : Nat) : Int) ≤ 32) = true := decide_eq_true (by have := of_decide_eq_true d2; omega)
      simp only [go_sem, s_config_named, en, List.isEmpty_cons, toB_size, hs, d3]
      refine Cl_plain hix ?_
      simp only [go_sem, hm]
      refine wE ?_
      simp only [go_sem, r_config_named]
      first | done | rfl

theorem f_config_section (l : List UInt8) (hl : l.length ≤ 4611686018427387904) : Meets Tryz.prog E0 n_config_section [Str (toB l)] [] (.tp [Str (toB (cfSecN l)), Bo (cfSecB l)]) [] := by
  refine st0 m_config_section ?_
  have h1 := f_CutPrefix l 91 hl
  have z1 := front_len 91 l
  have h2 := f_CutSuffix (frontB 91 l) 93 (by omega)
  have z2 := strip_len 93 (frontB 91 l)
  have h3 := f_config_named (stripB 93 (frontB 91 l)) (by omega)
  have e2 : cfSecB l = (headB 91 l && (lastB 93 (frontB 91 l) && cfNamed (stripB 93 (frontB 91 l)))) := rfl
  have e3 : cfSecN l = stripB 93 (frontB 91 l) := rfl
  rw [e2, e3]
  generalize lastB 93 (frontB 91 l) = b2 at *
  generalize stripB 93 (frontB 91 l) = n at *
  generalize headB 91 l = b1 at *
  simp only [go_sem, s_config_section]
  refine Cl_plain h1 ?_
  simp only [go_sem]
  refine Cl_plain h2 ?_
  cases b1
  · simp only [go_sem]
    refine wE ?_
    simp only [go_sem, r_config_section]
  · cases b2
    · simp only [go_sem]
      refine wE ?_
      simp only [go_sem, r_config_section]
    · simp only [go_sem]
      refine Cl_plain h3 ?_
      simp only [go_sem]
      refine wE ?_
      simp only [go_sem, r_config_section]

theorem f_config_keyed (l : List UInt8) (hl : l.length ≤ 4611686018427387904) : Meets Tryz.prog E0 n_config_keyed [Str (toB l)] [] (Bo (cfKeyed l)) [] := by
  refine st0 m_config_keyed ?_
  simp only [go_sem, s_config_keyed, toB_size]
  refine W_loop (fun i : Nat => l.length - i) (fun i => i ≤ l.length ∧ (l.drop i).all letterB = l.all letterB) (fun i => [(0, Str (toB l)), (6, I (l.length : Nat)), (7, I i)]) (fun _ => []) 0 ⟨Nat.zero_le _, by simp⟩ (sR [] []) ?_
  rintro i ⟨hi, hall⟩
  by_cases hil : i < l.length
  · have d0 : decide (i < l.length) = true := decide_eq_true hil
    obtain ⟨b, hb⟩ := get_of_lt hil
    have hg : (toB l)[i]? = some b := by rw [getT]; exact hb
    rw [drop_get hb, List.all_cons] at hall
    have ei : IntKind.i64.wrap ((i : Int) + 1) = ((i + 1 : Nat) : Int) := by rw [wrap_i64_of (by omega) (by omega)]; omega
    have hle := letter_eq b
    have em : (b.toNat % 256 ||| 32 % 256) = b.toNat ||| 32 := by rw [Nat.mod_eq_of_lt (u8_lt b)]
    generalize b.toNat ||| 32 = x at *
    cases hlb : letterB b
    · rw [hlb] at hle hall
      have hk : cfKeyed l = false := by unfold cfKeyed; rw [← hall]; simp
      rw [hk]
      cases d1 : decide (x < 97)
      · have d2 : decide (122 < x) = true := by
          have h1 := of_decide_eq_false d1
          rw [decide_eq_true (show 97 ≤ x by omega), Bool.true_and] at hle
          have := of_decide_eq_false hle
          exact decide_eq_true (by omega)
        simp only [go_sem, d0, hg, ei, em, d1, d2]
        refine wE ?_
        simp only [go_sem, r_config_keyed]
      · simp only [go_sem, d0, hg, ei, em, d1]
        refine wE ?_
        simp only [go_sem, r_config_keyed]
    · rw [hlb] at hle hall
      rw [Bool.true_and] at hall
      rw [Bool.and_eq_true, decide_eq_true_eq, decide_eq_true_eq] at hle
      have d1 : decide (x < 97) = false := decide_eq_false (by omega)
      have d2 : decide (122 < x) = false := decide_eq_false (by omega)
      simp only [go_sem, d0, hg, ei, em, d1, d2]
      exact rd_of (i + 1) (by first | omega | (simp only; omega)) ⟨hil, hall⟩ (sR [] [])
  · obtain rfl : i = l.length := by omega
    have d0 : decide (l.length < l.length) = false := decide_eq_false (by omega)
    have en := neE l
    rw [List.drop_length, List.all_nil] at hall
    have hk : cfKeyed l = (!l.isEmpty && decide (l.length ≤ 32)) := by
      unfold cfKeyed
      rw [← hall, Bool.and_true]
      cases l <;> simp
    have d3 : decide ((l.length : Int) ≤ 32) = decide (l.length ≤ 32) := decide_eq_decide.2 (by omega)
    rw [hk]
    cases he : l.isEmpty
    · rw [he] at en
      simp only [go_sem, d0, en, toB_size, d3]
      refine wE ?_
      simp only [go_sem, r_config_keyed]
      first | done | rfl
    · rw [he] at en
      simp only [go_sem, d0, en]
      refine wE ?_
      simp only [go_sem, r_config_keyed]
      first | done | rfl

theorem extD (l : List UInt8) (n : Nat) : (toB l).extract n (toB l).size = toB (l.drop n) := by
  rw [extT, toB_size, List.take_length]

theorem f_config_pair (l : List UInt8) (hl : l.length ≤ 1000000000) : Meets Tryz.prog E0 n_config_pair [Str (toB l)] [] (.tp [.ag [Str (toB (cfPair l).1.1), Str (toB (cfPair l).1.2)], Bo (cfPair l).2]) [] := by
  refine st0 m_config_pair ?_
  have hC := f_Cut (toB l) 61 (by show l.length ≤ _; omega)
  unfold cutB at hC
  rw [toB_data] at hC
  unfold cfPair
  have hat := partsB_at 61 l
  generalize Lib.indexByte l 61 = i at *
  by_cases hi : 0 ≤ i
  · obtain ⟨n, rfl⟩ : ∃ n : Nat, i = n := ⟨i.toNat, by omega⟩
    rw [if_pos hi] at hC ⊢
    simp only [Int.toNat_natCast] at hC ⊢
    have e1 : (toB l).extract 0 n = toB (l.take n) := by rw [extT]; rfl
    rw [e1, extD] at hC
    have h1 := f_config_trim (l.take n) (by simp; omega)
    have h2 := f_config_trim (l.drop (n + 1)) (by simp; omega)
    have z1 := trimS_len (l.take n) [32, 9]
    have h3 := f_config_keyed (cfTrim (l.take n)) (by unfold cfTrim; simp at z1; omega)
    simp only [go_sem, s_config_pair]
    refine Cl_plain hC ?_
    simp only [go_sem]
    refine Cl_plain h1 ?_
    simp only [go_sem]
    refine Cl_plain h2 ?_
    simp only [go_sem]
    refine Cl_plain h3 ?_
    simp only [go_sem]
    ((try (with_reducible refine rF ?_)); (try simp only [go_sem]))
    refine wE ?_
    simp only [go_sem, r_config_pair]
  · rw [if_neg hi] at hC ⊢
    have h1 := f_config_trim l (by omega)
    have h2 := f_config_trim [] (by simp)
    have e0 : (⟨#[]⟩ : ByteArray) = toB [] := rfl
    rw [e0] at hC
    have e3 : cfTrim [] = [] := rfl
    rw [e3] at h2
    simp only [go_sem, s_config_pair]
    refine Cl_plain hC ?_
    simp only [go_sem]
    refine Cl_plain h1 ?_
    simp only [go_sem]
    refine Cl_plain h2 ?_
    simp only [go_sem]
    ((try (with_reducible refine rF ?_)); (try simp only [go_sem]))
    refine wE ?_
    simp only [go_sem, r_config_pair]

end Go.Proofs.YtaeleljlpcjcdaaGreatDoor
namespace Go.Proofs.YtaeleljlpcjcdaaGreatDoor
open Go Go.Sx

def blankB (b : UInt8) : Bool := decide (b.toNat = 32) || decide (b.toNat = 9)

theorem blank_in (b : UInt8) : ([32, 9] : List UInt8).contains b = blankB b := by
  have h := (by decide +kernel : ∀ n : Fin 256, ([32, 9] : List UInt8).contains (UInt8.ofNat n.1) = blankB (UInt8.ofNat n.1))
  have := h ⟨b.toNat, u8_lt b⟩
  simpa using this

theorem cfTrim_front {b : UInt8} (l : List UInt8) (hb : blankB b = true) : cfTrim (b :: l) = cfTrim l := by
  unfold cfTrim Lib.trimS Lib.trimLeftS Lib.trimRightS
  have hb' : ([32, 9] : List UInt8).contains b = true := by rw [blank_in]; exact hb
  rw [List.reverse_cons, List.dropWhile_append]
  split
  · rename_i h
    have h0 : List.dropWhile (fun x => ([32, 9] : List UInt8).contains x) l.reverse = [] := by simpa using h
    rw [h0]
    simp only [List.reverse_nil, List.dropWhile_nil]
    rw [List.dropWhile_cons, if_pos hb']; rfl
  · rw [List.reverse_append]
    simp only [List.reverse_cons, List.reverse_nil, List.nil_append, List.cons_append]
    rw [List.dropWhile_cons, if_pos hb']

theorem cfTrim_back {b : UInt8} (l : List UInt8) (hb : blankB b = true) : cfTrim (l ++ [b]) = cfTrim l := by
  unfold cfTrim Lib.trimS Lib.trimLeftS Lib.trimRightS
  have hb' : ([32, 9] : List UInt8).contains b = true := by rw [blank_in]; exact hb
  rw [List.reverse_append]
  simp only [List.reverse_cons, List.reverse_nil, List.nil_append, List.cons_append]
  rw [List.dropWhile_cons, if_pos hb']

theorem cfTrim_done (l : List UInt8) (h1 : ∀ b, l.head? = some b → blankB b = false) (h2 : ∀ b, l.getLast? = some b → blankB b = false) : cfTrim l = l := by
  unfold cfTrim Lib.trimS Lib.trimLeftS Lib.trimRightS
  have e1 : l.reverse.dropWhile (fun x => ([32, 9] : List UInt8).contains x) = l.reverse := by
    cases hr : l.reverse with
    | nil => rfl
    | cons b r =>
      have : l.getLast? = some b := by rw [← List.head?_reverse, hr]; rfl
      have := h2 b this
      rw [List.dropWhile_cons, if_neg (by rw [blank_in, this]; decide)]
  rw [e1, List.reverse_reverse]
  cases l with
  | nil => rfl
  | cons b r =>
    have := h1 b rfl
    rw [List.dropWhile_cons, if_neg (by rw [blank_in, this]; decide)]

theorem f_ref11_blank (b : UInt8) : Meets Tryz.prog E0 n_ref11_blank [B8 b.toNat] [] (Bo (blankB b)) [] := by
  refine st0 m_ref11_blank ?_
  unfold blankB
  cases d : decide (b.toNat = 32)
  · simp only [go_sem, s_ref11_blank, d]
    refine wE ?_
    simp only [go_sem, r_ref11_blank]
    first | done | rfl
  · simp only [go_sem, s_ref11_blank, d]
    refine wE ?_
    simp only [go_sem, r_ref11_blank]
    first | done | rfl

theorem f_ref11_Trim (s : List UInt8) (hs : s.length ≤ 4611686018427387904) : Meets Tryz.prog E0 n_ref11_Trim [Str (toB s)] [] (Str (toB (cfTrim s))) [] := by
  refine st0 m_ref11_Trim ?_
  simp only [go_sem, s_ref11_Trim]
  refine W_loop (fun r : List UInt8 => r.length) (fun r => r.length ≤ s.length ∧ cfTrim r = cfTrim s) (fun r => [(0, Str (toB r))]) (fun _ => []) s ⟨Nat.le_refl _, rfl⟩ (sR [] []) ?_
  rintro r ⟨hr, ht⟩
  have hcase : r = [] ∨ (∃ b l, r = b :: l ∧ blankB b = false) ∨ ∃ b l, r = b :: l ∧ blankB b = true := by
    cases r with
    | nil => exact Or.inl rfl
    | cons b l =>
      cases hb : blankB b
      · exact Or.inr (Or.inl ⟨b, l, rfl, hb⟩)
      · exact Or.inr (Or.inr ⟨b, l, rfl, hb⟩)
  rcases hcase with rfl | ⟨b, l, rfl, hb⟩ | ⟨b, l, rfl, hb⟩
  case' inl =>
    have hh : ∀ b, ([] : List UInt8).head? = some b → blankB b = false := by intro b h; cases h
    have d0 : decide ((0 : Int) < ((0 : Nat) : Int)) = false := rfl
    simp only [go_sem, toB_size, List.length_nil, d0]
  case' inr.inl =>
    have hh : ∀ c, (b :: l).head? = some c → blankB c = false := by intro c h; injection h with h; subst h; exact hb
    have d0 : decide ((0 : Int) < ((l.length + 1 : Nat) : Int)) = true := decide_eq_true (by omega)
    have hg : (toB (b :: l))[0]? = some b := by rw [getT]; rfl
    have hf := f_ref11_blank b
    rw [hb] at hf
    simp only [go_sem, toB_size, List.length_cons, d0, hg]
    refine Cl_plain hf ?_
    simp only [go_sem]
  case' inr.inr =>
    have d0 : decide ((0 : Int) < ((l.length + 1 : Nat) : Int)) = true := decide_eq_true (by omega)
    have hg : (toB (b :: l))[0]? = some b := by rw [getT]; rfl
    have hf := f_ref11_blank b
    rw [hb] at hf
    have c1 : ((1 : Int) ≤ ((l.length + 1 : Nat) : Int)) = True := eq_true (by omega)
    have e : (toB (b :: l)).extract 1 (l.length + 1) = toB l := by rw [extT, List.take_of_length_le (by simp)]; rfl
    simp only [go_sem, toB_size, List.length_cons, d0, hg]
    refine Cl_plain hf ?_
    simp only [go_sem, toB_size, List.length_cons, c1, e]
    refine rd_of l (by simp) ⟨by simp at hr; omega, by rw [← ht, cfTrim_front l hb]⟩ (sR [] [])
  all_goals
    refine W_loop (fun q : List UInt8 => q.length) (fun q => q.length ≤ s.length ∧ cfTrim q = cfTrim s ∧ ∀ b, q.head? = some b → blankB b = false) (fun q => [(0, Str (toB q))]) (fun _ => []) _ ⟨hr, ht, hh⟩ (sR [] []) ?_
    clear hh ht hr
    rintro q ⟨hq, ht, hh⟩
    by_cases hn : q = []
    · subst hn
      have d0 : decide ((0 : Int) < ((0 : Nat) : Int)) = false := rfl
      have hv : cfTrim s = [] := by rw [← ht]; rfl
      rw [hv]
      simp only [go_sem, toB_size, List.length_nil, d0]
      refine wE ?_
      simp only [go_sem, r_ref11_Trim]
    · obtain ⟨i, b, rfl⟩ := snoc_of hn
      have hs : (i ++ [b]).length = i.length + 1 := by simp
      rw [hs] at hq
      have d0 : decide ((0 : Int) < ((i.length + 1 : Nat) : Int)) = true := decide_eq_true (by omega)
      have e1 : IntKind.i64.wrap (((i.length + 1 : Nat) : Int) - 1) = (i.length : Int) := by rw [wrap_i64_of (by omega) (by omega)]; omega
      have hg : (toB (i ++ [b]))[i.length]? = some b := by rw [getT]; simp
      have c1 : ((i.length : Int) ≤ ((i.length + 1 : Nat) : Int)) = True := eq_true (by omega)
      have hf := f_ref11_blank b
      cases hb : blankB b
      · rw [hb] at hf
        have hv : cfTrim s = i ++ [b] := by
          rw [← ht, cfTrim_done _ hh]
          intro c hc
          rw [List.getLast?_concat] at hc
          injection hc with hc; subst hc; exact hb
        rw [hv]
        simp only [go_sem, toB_size, hs, d0, e1, hg]
        refine Cl_plain hf ?_
        simp only [go_sem]
        refine wE ?_
        simp only [go_sem, r_ref11_Trim]
      · rw [hb] at hf
        have e : (toB (i ++ [b])).extract 0 i.length = toB i := by rw [extT, List.take_left]; rfl
        simp only [go_sem, toB_size, hs, d0, e1, hg]
        refine Cl_plain hf ?_
        simp only [go_sem, toB_size, hs, e1, c1, e]
        refine rd_of i (by simp) ⟨by omega, by rw [← ht, cfTrim_back i hb], ?_⟩ (sR [] [])
        intro c hc
        refine hh c ?_
        cases i with
        | nil => cases hc
        | cons a i => exact hc

end Go.Proofs.YtaeleljlpcjcdaaGreatDoor
namespace Go.Proofs.YtaeleljlpcjcdaaGreatDoor
open Go Go.Sx

theorem f_ref11_named (l : List UInt8) (hl : l.length ≤ 4611686018427387904) : Meets Tryz.prog E0 n_ref11_named [Str (toB l)] [] (Bo (cfNamed l)) [] := by
  refine st0 m_ref11_named ?_
  simp only [go_sem, s_ref11_named]
  refine W_loop (fun i : Nat => l.length - i) (fun i => i ≤ l.length ∧ (l.drop i).contains 93 = l.contains 93) (fun i => [(0, Str (toB l)), (3, I i)]) (fun _ => []) 0 ⟨Nat.zero_le _, by simp⟩ (sR [] []) ?_
  rintro i ⟨hi, hall⟩
  by_cases hil : i < l.length
  · have d0 : decide (i < l.length) = true := decide_eq_true hil
    obtain ⟨b, hb⟩ := get_of_lt hil
    have hg : (toB l)[i]? = some b := by rw [getT]; exact hb
    rw [drop_get hb, List.contains_cons] at hall
    have ei : IntKind.i64.wrap ((i : Int) + 1) = ((i + 1 : Nat) : Int) := by rw [wrap_i64_of (by omega) (by omega)]; omega
    by_cases h93 : b = 93
    · subst h93
      have hk : cfNamed l = false := by unfold cfNamed; rw [← hall]; simp
      have d1 : decide (UInt8.toNat 93 = 93) = true := rfl
      rw [hk]
      simp only [go_sem, d0, hg, ei, toB_size, d1]
      refine wE ?_
      simp only [go_sem, r_ref11_named]
    · have d1 : decide (b.toNat = 93) = false := decide_eq_false (fun e => h93 (UInt8.toNat_inj.1 e))
      have hbe : ((93 : UInt8) == b) = false := by simpa using fun e => h93 e.symm
      rw [hbe, Bool.false_or] at hall
      simp only [go_sem, d0, hg, ei, toB_size, d1]
      exact rd_of (i + 1) (by first | omega | (simp only; omega)) ⟨hil, hall⟩ (sR [] [])
  · obtain rfl : i = l.length := by omega
    have d0 : decide (l.length < l.length) = false := decide_eq_false (by omega)
    rw [List.drop_length] at hall
    have hk : cfNamed l = (decide (1 ≤ l.length) && decide (l.length ≤ 32)) := by unfold cfNamed; rw [← hall]; simp
    have d3 : decide ((l.length : Int) ≤ 32) = decide (l.length ≤ 32) := decide_eq_decide.2 (by omega)
    have d4 : decide ((1 : Int) ≤ (l.length : Int)) = decide (1 ≤ l.length) := decide_eq_decide.2 (by omega)
    rw [hk]
    cases h1 : decide (1 ≤ l.length)
    · simp only [go_sem, d0, toB_size, d4, h1]
      refine wE ?_
      simp only [go_sem, r_ref11_named]
      first | done | rfl
    · simp only [go_sem, d0, toB_size, d4, h1, d3]
      refine wE ?_
      simp only [go_sem, r_ref11_named]
      first | done | rfl

theorem f_ref11_keyed (l : List UInt8) (hl : l.length ≤ 4611686018427387904) : Meets Tryz.prog E0 n_ref11_keyed [Str (toB l)] [] (Bo (cfKeyed l)) [] := by
  refine st0 m_ref11_keyed ?_
  simp only [go_sem, s_ref11_keyed]
  refine W_loop (fun i : Nat => l.length - i) (fun i => i ≤ l.length ∧ (l.drop i).all letterB = l.all letterB) (fun i => [(0, Str (toB l)), (3, I i)]) (fun _ => []) 0 ⟨Nat.zero_le _, by simp⟩ (sR [] []) ?_
  rintro i ⟨hi, hall⟩
  by_cases hil : i < l.length
  · have d0 : decide (i < l.length) = true := decide_eq_true hil
    obtain ⟨b, hb⟩ := get_of_lt hil
    have hg : (toB l)[i]? = some b := by rw [getT]; exact hb
    rw [drop_get hb, List.all_cons] at hall
    have ei : IntKind.i64.wrap ((i : Int) + 1) = ((i + 1 : Nat) : Int) := by rw [wrap_i64_of (by omega) (by omega)]; omega
    have hlb : letterB b = ((decide (97 ≤ b.toNat) && decide (b.toNat ≤ 122)) || (decide (65 ≤ b.toNat) && decide (b.toNat ≤ 90))) := rfl
    have bad : letterB b = false → cfKeyed l = false := fun h => by
      unfold cfKeyed; rw [← hall, h]; simp
    have good : letterB b = true → (l.drop (i + 1)).all letterB = l.all letterB := fun h => by
      rw [h, Bool.true_and] at hall; exact hall
    cases d1 : decide (97 ≤ b.toNat) <;> cases d2 : decide (b.toNat ≤ 122) <;> cases d3 : decide (65 ≤ b.toNat) <;> cases d4 : decide (b.toNat ≤ 90)
    all_goals
      rw [d1, d2, d3, d4] at hlb
      first
      | (rw [bad hlb]
         simp only [go_sem, d0, hg, ei, toB_size, d1, d2, d3, d4]
         refine wE ?_
         simp only [go_sem, r_ref11_keyed]
         done)
      | (have hgd := good hlb
         simp only [go_sem, d0, hg, ei, toB_size, d1, d2, d3, d4]
         exact rd_of (i + 1) (by first | omega | (simp only; omega)) ⟨hil, hgd⟩ (sR [] []))
  · obtain rfl : i = l.length := by omega
    have d0 : decide (l.length < l.length) = false := decide_eq_false (by omega)
    rw [List.drop_length, List.all_nil] at hall
    have hk : cfKeyed l = (decide (1 ≤ l.length) && decide (l.length ≤ 32)) := by unfold cfKeyed; rw [← hall]; simp
    have d3 : decide ((l.length : Int) ≤ 32) = decide (l.length ≤ 32) := decide_eq_decide.2 (by omega)
    have d4 : decide ((1 : Int) ≤ (l.length : Int)) = decide (1 ≤ l.length) := decide_eq_decide.2 (by omega)
    rw [hk]
    cases h1 : decide (1 ≤ l.length)
    · simp only [go_sem, d0, toB_size, d4, h1]
      refine wE ?_
      simp only [go_sem, r_ref11_keyed]
      first | done | rfl
    · simp only [go_sem, d0, toB_size, d4, h1, d3]
      refine wE ?_
      simp only [go_sem, r_ref11_keyed]
      first | done | rfl

/-- A line's key and value, the document's way. -/
def cfCut (l : List UInt8) : CfPair × Bool := if 0 ≤ Lib.indexByte l 61 then cfPair l else (([], []), false)

theorem index_drop (c : UInt8) : ∀ (l : List UInt8) (i : Nat), i ≤ l.length → (∀ j b, j < i → l[j]? = some b → b ≠ c) → (Lib.indexByte (l.drop i) c < 0 → Lib.indexByte l c < 0) ∧ (0 ≤ Lib.indexByte (l.drop i) c → Lib.indexByte l c = Lib.indexByte (l.drop i) c + i)
  | l, 0, _, _ => by simp
  | [], i + 1, h, _ => by simp at h
  | b :: l, i + 1, h, hn => by
    have hb : ¬ b = c := hn 0 b (by omega) rfl
    have ih := index_drop c l i (by simpa using h) (fun j x hj hx => hn (j + 1) x (by omega) (by simpa using hx))
    have hge := Lib.indexByte_ge l c
    have hb' : (b == c) = false := by simpa using hb
    simp only [List.drop_succ_cons]
    have e : Lib.indexByte (b :: l) c = if Lib.indexByte l c = -1 then -1 else Lib.indexByte l c + 1 := by
      simp only [Lib.indexByte, hb']
      by_cases hi : Lib.indexByte l c = -1
      · simp [hi]
      · have hi' : (Lib.indexByte l c == -1) = false := by simpa using hi
        simp [hi', hi]
    rw [e]
    constructor
    · intro h1
      have := ih.1 h1
      rw [if_pos (by omega)]; omega
    · intro h1
      have := ih.2 h1
      rw [if_neg (by omega)]; omega

theorem f_ref11_cut (l : List UInt8) (hl : l.length ≤ 1000000000) : Meets Tryz.prog E0 n_ref11_cut [Str (toB l)] [] (.tp [.ag [Str (toB (cfCut l).1.1), Str (toB (cfCut l).1.2)], Bo (cfCut l).2]) [] := by
  refine st0 m_ref11_cut ?_
  simp only [go_sem, s_ref11_cut]
  refine W_loop (fun i : Nat => l.length - i) (fun i => i ≤ l.length ∧ ∀ j b, j < i → l[j]? = some b → b ≠ 61) (fun i => [(0, Str (toB l)), (2, .ptr 100 0), (3, Bo false), (4, I i)]) (fun _ => [(100, .box [Str (bs []), Str (bs [])])]) 0 ⟨Nat.zero_le _, fun j b h => absurd h (by omega)⟩ ?_ ?_
  · exact (sR [] [])
  · rintro i ⟨hi, hno⟩
    have hix := index_drop 61 l i hi hno
    by_cases hil : i < l.length
    · have d0 : decide (i < l.length) = true := decide_eq_true hil
      obtain ⟨b, hb⟩ := get_of_lt hil
      have hg : (toB l)[i]? = some b := by rw [getT]; exact hb
      have ei : IntKind.i64.wrap ((i : Int) + 1) = ((i + 1 : Nat) : Int) := by rw [wrap_i64_of (by omega) (by omega)]; omega
      by_cases h61 : b = 61
      · subst h61
        have hz : Lib.indexByte (l.drop i) 61 = 0 := by rw [drop_get hb]; simp [Lib.indexByte]
        have hI : Lib.indexByte l 61 = i := by rw [hix.2 (by omega), hz]; omega
        have hv : cfCut l = ((cfTrim (l.take i), cfTrim (l.drop (i + 1))), cfKeyed (cfTrim (l.take i))) := by
          unfold cfCut cfPair
          rw [hI, if_pos (by omega), if_pos (by omega)]
          simp only [Int.toNat_natCast]
        rw [hv]
        have d1 : decide (UInt8.toNat 61 = 61) = true := rfl
        have h1 := f_ref11_Trim (l.take i) (by simp; omega)
        have h2 := f_ref11_Trim (l.drop (i + 1)) (by simp; omega)
        have z1 := trimS_len (l.take i) [32, 9]
        have h3 := f_ref11_keyed (cfTrim (l.take i)) (by unfold cfTrim; simp at z1; omega)
        have e1 : (toB l).extract 0 i = toB (l.take i) := by rw [extT]; rfl
        have e2 : (toB l).extract (i + 1) l.length = toB (l.drop (i + 1)) := by rw [extT, List.take_length]
        have c1 : ((i : Int) ≤ (l.length : Int)) = True := eq_true (by omega)
        have c2 : (((i + 1 : Nat) : Int) ≤ (l.length : Int)) = True := eq_true (by omega)
        simp only [go_sem, d0, hg, d1, toB_size, c1, e1]
        refine Cl_plain h1 ?_
        simp only [go_sem, ei, toB_size, c2, e2]
        refine Cl_plain h2 ?_
        simp only [go_sem]
        ((try (with_reducible refine rF ?_)); (try simp only [go_sem]))
        refine Cl_plain h3 ?_
        simp only [go_sem]
        ((try (with_reducible refine rF ?_)); (try simp only [go_sem]))
        refine wE ?_
        simp only [go_sem, r_ref11_cut]
      · have d1 : decide (b.toNat = 61) = false := decide_eq_false (fun e => h61 (UInt8.toNat_inj.1 e))
        simp only [go_sem, d0, hg, d1, ei, toB_size]
        refine rd_of (i + 1) (by first | omega | (simp only; omega)) ⟨hil, fun j x hj hx => ?_⟩ (sR [] [])
        rcases Nat.lt_or_ge j i with h | h
        · exact hno j x h hx
        · obtain rfl : j = i := by omega
          rw [hb] at hx; injection hx with hx; subst hx; exact h61
    · obtain rfl : i = l.length := by omega
      have d0 : decide (l.length < l.length) = false := decide_eq_false (by omega)
      have hneg : Lib.indexByte l 61 < 0 := hix.1 (by rw [List.drop_length]; simp [Lib.indexByte])
      have hv : cfCut l = (([], []), false) := by unfold cfCut; rw [if_neg (by omega)]
      rw [hv]
      simp only [show toB [] = bs [] from rfl]
      simp only [go_sem, d0, toB_size]
      refine wE ?_
      simp only [go_sem, r_ref11_cut]

end Go.Proofs.YtaeleljlpcjcdaaGreatDoor
namespace Go.Proofs.YtaeleljlpcjcdaaGreatDoor
open Go Go.Sx

/-- A call of a function value that has variables: they are handed, and left. -/
theorem Cl_cap {P : Program} {E : Env} {io : List Nat} {Q : Exit → St → Prop} {k : List Kt} {env : List (Nat × AV)} {sto : List (Nat × Ob)} {draw : Bool} {prs : List (Nat × Nat)} {vars : List Nat} {id : Nat} {acc : List Rc}
    {ops : List SO} {d : Option Nat} {g : FuncId} {xs caps : List AV} {r : AV} {ins outs : List (Nat × Ob)} (h : Meets P E g (xs ++ caps) ins r outs) (hin : ∀ i ∈ keysOf ins, stoOf sto i = stoOf ins i) (hk : keysOf outs = keysOf ins) (nd : (keysOf ins).Nodup)
    (hr : R P E io Q draw prs vars k (id + 1) ops (if draw then acc ++ [⟨r, idsL (xs ++ caps) ++ keysOf outs, outs⟩] else acc) (match d with | some d => (d, r) :: env | none => env) (outs ++ sto)) :
    Cl P E io Q draw prs vars k id ops acc d env sto (.fn g [] caps) xs := by
  refine ⟨g, [], caps, rfl, r, ins, outs, [], false, xs ++ caps, ?_, ?_⟩
  · exact { meets := h, wk := by simpa using Wks.refl (xs ++ caps), insOk := hin, newOk := fun i hi => Or.inl (by rw [← hk]; exact hi), snOk := by simp, keepOk := by simp, nd := by rw [hk]; exact nd }
  · simp only [froze_nil, List.append_nil, List.nil_append, Bool.false_eq_true, if_false]
    exact hr

end Go.Proofs.YtaeleljlpcjcdaaGreatDoor
namespace Go.Proofs.YtaeleljlpcjcdaaGreatDoor
open Go Go.Sx

theorem wO_CfGet {io : List Nat} {env : List (Nat × AV)} {sto : List (Nat × Ob)} {res : List RV} {r : AV} {e : Exit} {outs : List (Nat × Ob)} (rn : List (Nat × Nat)) (sn : List Nat) (hr : ∃ raw, (resL env sto res).map packR = some raw ∧ wkV (stoOf sto) sn (ren rn) raw r) (he : e = .ret ∨ e = .normal := by first | exact Or.inl rfl | exact Or.inr rfl)
    (hi : ∀ i ∈ r.ids, i ∈ keysOf outs := by simp [AV.ids, idsL, keysOf]) (h2 : stoS sto sn rn outs outs := by simp [stoS, wkO, ls_cons, ls_nil, stoOf, ren, keysOf, Ob.ids, wkV, wkL, AV.one, idsL, AV.ids, pairT, secT, secsV, linesV] <;> assumption) (h3 : ((keysOf outs).map (ren rn)).Nodup := by simp [keysOf, ren])
    (h4 : ∀ i ∈ sn, 100 ≤ i ∧ isRow (stoOf sto i) = true ∧ ∀ j ∈ keysOf outs, ren rn j ≠ i := by simp [stoOf, keysOf, ren]) (h5 : ∀ i ∈ io, ren rn i = i := by simp [keysOf, ren]) (h6 : ∀ i ∈ keysOf outs, ren rn i ∈ io → i = ren rn i := by simp [keysOf, ren]) :
    SEnds io res r outs e ⟨envOf env, stoOf sto⟩ := wO rn sn hr he hi h2 h3 h4 h5 h6

theorem sR_CfGet {io : List Nat} {env : List (Nat × AV)} {sto : List (Nat × Ob)} {env' : List (Nat × AV)} {sto' : List (Nat × Ob)} (rn : List (Nat × Nat)) (sn : List Nat)
    (h1 : envS sto sn rn env sto' env' := by simp [envS, go_sem, wkV, wkL, AV.ids, idsL, keysOf, ren, stoOf, slTrees, AV.asOwn, rowPart, AV.isNil, shA, rowsT, cellsT, cellT, wkLL, pairT, secT, secsV, linesV] <;> assumption)
    (h2 : stoS sto sn rn sto' sto' := by simp [stoS, go_sem, wkV, wkL, wkO, AV.ids, Ob.ids, idsL, keysOf, ren, AV.one, stoOf, slTrees, AV.asOwn, rowPart, AV.isNil, shA, rowsT, cellsT, cellT, wkLL, pairT, secT, secsV, linesV] <;> assumption)
    (h3 : ((keysOf sto').map (ren rn)).Nodup := by simp [keysOf, ren]) (h4 : ∀ i ∈ sn, 100 ≤ i ∧ isRow (stoOf sto i) = true ∧ ∀ j ∈ keysOf sto', ren rn j ≠ i := by simp [stoOf, keysOf, ren])
    (h5 : ∀ i ∈ io, ren rn i = i := by simp [keysOf, ren]) (h6 : ∀ i ∈ keysOf sto', ren rn i ∈ io → i = ren rn i := by simp [keysOf, ren]) :
    Sub io ⟨envOf env, stoOf sto⟩ ⟨envOf env', stoOf sto'⟩ := subL rn sn h1 h2 h3 h4 h5 h6

def cfIdx {α : Type} (p : α → Bool) : List α → Int
  | [] => -1
  | x :: l => if p x then 0 else if cfIdx p l < 0 then -1 else cfIdx p l + 1

theorem cfIdx_ge {α : Type} (p : α → Bool) (l : List α) : -1 ≤ cfIdx p l ∧ cfIdx p l < l.length := by
  induction l with
  | nil => simp [cfIdx]
  | cons x l ih => simp only [cfIdx, List.length_cons]; split <;> (try split) <;> omega

theorem cfIdx_drop {α : Type} (p : α → Bool) : ∀ (l : List α) (i : Nat), i ≤ l.length → (∀ j x, j < i → l[j]? = some x → p x = false) → cfIdx p l = if cfIdx p (l.drop i) < 0 then -1 else cfIdx p (l.drop i) + i
  | l, 0, _, _ => by
    have := cfIdx_ge p l
    simp; omega
  | [], i + 1, h, _ => by simp at h
  | x :: l, i + 1, h, hn => by
    have hx : p x = false := hn 0 x (by omega) rfl
    have ih := cfIdx_drop p l i (by simpa using h) (fun j y hj hy => hn (j + 1) y (by omega) (by simpa using hy))
    have hg := cfIdx_ge p (l.drop i)
    simp only [List.drop_succ_cons, cfIdx, hx]
    rw [ih]
    simp only [Bool.false_eq_true, if_false]
    split <;> split <;> omega

theorem f_config_has_1 (n : List UInt8) (s : CfSec) : Meets Tryz.prog E0 n_config_has_1 [.ag ((secT s).map .t), .ptr 0 0] [(0, .box [Str (toB n)])] (Bo (s.1 == n)) [(0, .box [Str (toB n)])] := by
  have q := eqT s.1 n
  refine m_config_has_1 (by simp) (shut_of (by simp [idsL, AV.ids, keysOf, pairT, secT, secsV, linesV]) (by simp [Ob.live, Ob.ids, keysOf, idsL, AV.ids, pairT, secT, secsV, linesV])) (shut_of (by simp [idsL, AV.ids, keysOf, pairT, secT, secsV, linesV]) (by simp [Ob.live, Ob.ids, keysOf, idsL, AV.ids, pairT, secT, secsV, linesV])) (by simp [keysOf]) (by simp [keysOf]) ?_
  simp only [secT, List.map]
  simp only [go_sem, s_config_has_1, q]
  refine wO_CfGet [] [] ?_
  simp only [go_sem, r_config_has_1, exists_eq_left', Option.some.injEq]
  simp [wkV, wkL, slTrees, AV.asOwn, rowPart, stoOf, AV.isNil, shA, rowsT, cellsT, cellT, ren]

theorem f_config_Get_1 (n : List UInt8) (p : CfPair) : Meets Tryz.prog E0 n_config_Get_1 [.ag ((pairT p).map .t), .ptr 0 0] [(0, .box [Str (toB n)])] (Bo (p.1 == n)) [(0, .box [Str (toB n)])] := by
  have q := eqT p.1 n
  refine m_config_Get_1 (by simp) (shut_of (by simp [idsL, AV.ids, keysOf, pairT, secT, secsV, linesV]) (by simp [Ob.live, Ob.ids, keysOf, idsL, AV.ids, pairT, secT, secsV, linesV])) (shut_of (by simp [idsL, AV.ids, keysOf, pairT, secT, secsV, linesV]) (by simp [Ob.live, Ob.ids, keysOf, idsL, AV.ids, pairT, secT, secsV, linesV])) (by simp [keysOf]) (by simp [keysOf]) ?_
  simp only [pairT, List.map]
  simp only [go_sem, s_config_Get_1, q]
  refine wO_CfGet [] [] ?_
  simp only [go_sem, r_config_Get_1, exists_eq_left', Option.some.injEq]
  simp [wkV, wkL, slTrees, AV.asOwn, rowPart, stoOf, AV.isNil, shA, rowsT, cellsT, cellT, ren]

theorem f_IndexFunc_sec (l : List CfSec) (n : List UInt8) (hl : l.length ≤ 1000000) : Meets Tryz.prog E0 n_slices_IndexFunc_Sapi_Section_api_Section [.t (.sl 2 (l.map secT)), .fn n_config_has_1 [] [.ptr 0 0]] [(0, .box [Str (toB n)])] (I (cfIdx (fun s => s.1 == n) l)) [(0, .box [Str (toB n)])] := by
  refine m_slices_IndexFunc_Sapi_Section_api_Section (by simp) (shut_of (by simp [idsL, AV.ids, keysOf, pairT, secT, secsV, linesV]) (by simp [Ob.live, Ob.ids, keysOf, idsL, AV.ids, pairT, secT, secsV, linesV])) (shut_of (by simp [idsL, AV.ids, keysOf, pairT, secT, secsV, linesV]) (by simp [Ob.live, Ob.ids, keysOf, idsL, AV.ids, pairT, secT, secsV, linesV])) (by simp [keysOf]) (by simp [keysOf]) ?_
  have hlen : (l.map secT).length = l.length := by simp
  simp only [go_sem, s_slices_IndexFunc_Sapi_Section_api_Section, hlen]
  refine W_loop (fun i : Nat => l.length - i) (fun i => i ≤ l.length ∧ ∀ j x, j < i → l[j]? = some x → (x.1 == n) = false)
    (fun i => [(0, .t (.sl 2 (l.map secT))), (1, .fn n_config_has_1 [] [.ptr 0 0]), (7, I l.length), (8, I i)]) (fun _ => [(0, .box [Str (toB n)])]) 0 ⟨Nat.zero_le _, fun j x h => absurd h (by omega)⟩ ?_ ?_
  · exact (sR_CfGet [] [])
  · rintro i ⟨hi, hno⟩
    have hix := cfIdx_drop (fun s : CfSec => s.1 == n) l i hi hno
    by_cases hil : i < l.length
    · have d0 : decide (i < l.length) = true := decide_eq_true hil
      obtain ⟨s, hs⟩ := get_of_lt hil
      have ei : IntKind.i64.wrap ((i : Int) + 1) = ((i + 1 : Nat) : Int) := by rw [wrap_i64_of (by omega) (by omega)]; omega
      have hg : (l.map secT)[i]? = some (secT s) := by rw [List.getElem?_map, hs]; rfl
      have hf := f_config_has_1 n s
      rw [drop_get hs] at hix
      have hsl : (secT s).length = 2 := rfl
      have htk : (secT s).take 2 = secT s := rfl
      simp only [go_sem, d0, hg, hsl, htk]
      refine Cl_cap hf (by simp [keysOf, stoOf]) (by simp [keysOf]) (by simp [keysOf]) ?_
      cases hb : (s.1 == n)
      · simp only [go_sem, ei]
        refine rd_of (i + 1) (by first | omega | (simp only; omega)) ⟨hil, fun j x hj hx => ?_⟩ (sR_CfGet [] [])
        rcases Nat.lt_or_ge j i with h | h
        · exact hno j x h hx
        · obtain rfl : j = i := by omega
          rw [hs] at hx; injection hx with hx; subst hx; exact hb
      · have hz : cfIdx (fun s : CfSec => s.1 == n) (s :: l.drop (i + 1)) = 0 := by simp only [cfIdx, hb, if_true]
        rw [hz, if_neg (by omega)] at hix
        rw [hix, show (0 : Int) + (i : Int) = (i : Int) by omega]
        simp only [go_sem]
        refine wO_CfGet [] [] ?_
        simp only [go_sem, r_slices_IndexFunc_Sapi_Section_api_Section, exists_eq_left', Option.some.injEq]
        simp [wkV, wkL, slTrees, AV.asOwn, rowPart, stoOf, AV.isNil, shA, rowsT, cellsT, cellT, ren]
    · obtain rfl : i = l.length := by omega
      have d0 : decide (l.length < l.length) = false := decide_eq_false (by omega)
      have hz : cfIdx (fun s : CfSec => s.1 == n) [] = -1 := rfl
      rw [List.drop_length, hz, if_pos (by omega)] at hix
      rw [hix]
      simp only [go_sem, d0]
      refine wO_CfGet [] [] ?_
      simp only [go_sem, r_slices_IndexFunc_Sapi_Section_api_Section, exists_eq_left', Option.some.injEq]
      simp [wkV, wkL, slTrees, AV.asOwn, rowPart, stoOf, AV.isNil, shA, rowsT, cellsT, cellT, ren]

theorem f_IndexFunc_pair (l : List CfPair) (n : List UInt8) (hl : l.length ≤ 1000000) : Meets Tryz.prog E0 n_slices_IndexFunc_Sapi_Pair_api_Pair [.t (.sl 2 (l.map pairT)), .fn n_config_Get_1 [] [.ptr 0 0]] [(0, .box [Str (toB n)])] (I (cfIdx (fun s => s.1 == n) l)) [(0, .box [Str (toB n)])] := by
  refine m_slices_IndexFunc_Sapi_Pair_api_Pair (by simp) (shut_of (by simp [idsL, AV.ids, keysOf, pairT, secT, secsV, linesV]) (by simp [Ob.live, Ob.ids, keysOf, idsL, AV.ids, pairT, secT, secsV, linesV])) (shut_of (by simp [idsL, AV.ids, keysOf, pairT, secT, secsV, linesV]) (by simp [Ob.live, Ob.ids, keysOf, idsL, AV.ids, pairT, secT, secsV, linesV])) (by simp [keysOf]) (by simp [keysOf]) ?_
  have hlen : (l.map pairT).length = l.length := by simp
  simp only [go_sem, s_slices_IndexFunc_Sapi_Pair_api_Pair, hlen]
  refine W_loop (fun i : Nat => l.length - i) (fun i => i ≤ l.length ∧ ∀ j x, j < i → l[j]? = some x → (x.1 == n) = false)
    (fun i => [(0, .t (.sl 2 (l.map pairT))), (1, .fn n_config_Get_1 [] [.ptr 0 0]), (7, I l.length), (8, I i)]) (fun _ => [(0, .box [Str (toB n)])]) 0 ⟨Nat.zero_le _, fun j x h => absurd h (by omega)⟩ ?_ ?_
  · exact (sR_CfGet [] [])
  · rintro i ⟨hi, hno⟩
    have hix := cfIdx_drop (fun s : CfPair => s.1 == n) l i hi hno
    by_cases hil : i < l.length
    · have d0 : decide (i < l.length) = true := decide_eq_true hil
      obtain ⟨s, hs⟩ := get_of_lt hil
      have ei : IntKind.i64.wrap ((i : Int) + 1) = ((i + 1 : Nat) : Int) := by rw [wrap_i64_of (by omega) (by omega)]; omega
      have hg : (l.map pairT)[i]? = some (pairT s) := by rw [List.getElem?_map, hs]; rfl
      have hf := f_config_Get_1 n s
      rw [drop_get hs] at hix
      have hsl : (pairT s).length = 2 := rfl
      have htk : (pairT s).take 2 = pairT s := rfl
      simp only [go_sem, d0, hg, hsl, htk]
      refine Cl_cap hf (by simp [keysOf, stoOf]) (by simp [keysOf]) (by simp [keysOf]) ?_
      cases hb : (s.1 == n)
      · simp only [go_sem, ei]
        refine rd_of (i + 1) (by first | omega | (simp only; omega)) ⟨hil, fun j x hj hx => ?_⟩ (sR_CfGet [] [])
        rcases Nat.lt_or_ge j i with h | h
        · exact hno j x h hx
        · obtain rfl : j = i := by omega
          rw [hs] at hx; injection hx with hx; subst hx; exact hb
      · have hz : cfIdx (fun s : CfPair => s.1 == n) (s :: l.drop (i + 1)) = 0 := by simp only [cfIdx, hb, if_true]
        rw [hz, if_neg (by omega)] at hix
        rw [hix, show (0 : Int) + (i : Int) = (i : Int) by omega]
        simp only [go_sem]
        refine wO_CfGet [] [] ?_
        simp only [go_sem, r_slices_IndexFunc_Sapi_Pair_api_Pair, exists_eq_left', Option.some.injEq]
        simp [wkV, wkL, slTrees, AV.asOwn, rowPart, stoOf, AV.isNil, shA, rowsT, cellsT, cellT, ren]
    · obtain rfl : i = l.length := by omega
      have d0 : decide (l.length < l.length) = false := decide_eq_false (by omega)
      have hz : cfIdx (fun s : CfPair => s.1 == n) [] = -1 := rfl
      rw [List.drop_length, hz, if_pos (by omega)] at hix
      rw [hix]
      simp only [go_sem, d0]
      refine wO_CfGet [] [] ?_
      simp only [go_sem, r_slices_IndexFunc_Sapi_Pair_api_Pair, exists_eq_left', Option.some.injEq]
      simp [wkV, wkL, slTrees, AV.asOwn, rowPart, stoOf, AV.isNil, shA, rowsT, cellsT, cellT, ren]

theorem cfIdx_has (l : List CfSec) (n : List UInt8) : decide (0 ≤ cfIdx (fun s => s.1 == n) l) = cfHas l n := by
  induction l with
  | nil => rfl
  | cons s l ih =>
    have hg := cfIdx_ge (fun s : CfSec => s.1 == n) l
    simp only [cfIdx, cfHas]
    by_cases hb : s.1 = n
    · have hb' : (s.1 == n) = true := by simpa using hb
      simp only [hb', if_true, Bool.true_or]
      rfl
    · have hb' : (s.1 == n) = false := by simpa using hb
      simp only [hb', Bool.false_eq_true, if_false, Bool.false_or]
      rw [← ih]
      refine decide_eq_decide.2 ?_
      split <;> omega

theorem cfIdx_get (l : List CfPair) (n : List UInt8) : cfGet l n = if cfIdx (fun s => s.1 == n) l < 0 then none else (l[(cfIdx (fun s => s.1 == n) l).toNat]?).map (·.2) := by
  induction l with
  | nil => rfl
  | cons s l ih =>
    have hg := cfIdx_ge (fun s : CfPair => s.1 == n) l
    simp only [cfIdx, cfGet]
    by_cases hb : s.1 = n
    · have hb' : (s.1 == n) = true := by simpa using hb
      rw [if_pos hb]
      simp only [hb', if_true]
      rfl
    · have hb' : (s.1 == n) = false := by simpa using hb
      rw [if_neg hb, ih]
      simp only [hb', Bool.false_eq_true, if_false]
      by_cases h : cfIdx (fun s : CfPair => s.1 == n) l < 0
      · rw [if_pos h, if_pos h, if_pos (by omega)]
      · rw [if_neg h, if_neg h, if_neg (by omega)]
        have e : (cfIdx (fun s : CfPair => s.1 == n) l + 1).toNat = (cfIdx (fun s : CfPair => s.1 == n) l).toNat + 1 := by omega
        rw [e, List.getElem?_cons_succ]

theorem f_ContainsFunc_sec (l : List CfSec) (n : List UInt8) (hl : l.length ≤ 1000000) : Meets Tryz.prog E0 n_slices_ContainsFunc_Sapi_Section_api_Section [.t (.sl 2 (l.map secT)), .fn n_config_has_1 [] [.ptr 0 0]] [(0, .box [Str (toB n)])] (Bo (cfHas l n)) [(0, .box [Str (toB n)])] := by
  refine m_slices_ContainsFunc_Sapi_Section_api_Section (by simp) (shut_of (by simp [idsL, AV.ids, keysOf, pairT, secT, secsV, linesV]) (by simp [Ob.live, Ob.ids, keysOf, idsL, AV.ids, pairT, secT, secsV, linesV])) (shut_of (by simp [idsL, AV.ids, keysOf, pairT, secT, secsV, linesV]) (by simp [Ob.live, Ob.ids, keysOf, idsL, AV.ids, pairT, secT, secsV, linesV])) (by simp [keysOf]) (by simp [keysOf]) ?_
  have h := f_IndexFunc_sec l n hl
  have e := cfIdx_has l n
  simp only [go_sem, s_slices_ContainsFunc_Sapi_Section_api_Section]
  refine oB (h) ?_
  simp only [go_sem, e]
  refine wO_CfGet [] [] ?_
  simp only [go_sem, r_slices_ContainsFunc_Sapi_Section_api_Section, exists_eq_left', Option.some.injEq]
  simp [wkV, wkL, slTrees, AV.asOwn, rowPart, stoOf, AV.isNil, shA, rowsT, cellsT, cellT, ren]

theorem f_config_has (l : List CfSec) (n : List UInt8) (hl : l.length ≤ 1000000) : Meets Tryz.prog E0 n_config_has [secsV l, Str (toB n)] [] (Bo (cfHas l n)) [] := by
  refine st0 m_config_has ?_
  have h := (f_ContainsFunc_sec l n hl).ren (fun _ => 100) (by simp [keysOf])
  simp only [renL, renA, renS, renO] at h
  simp only [go_sem, s_config_has]
  refine oB (h) ?_
  simp only [go_sem]
  refine wE ?_
  simp only [go_sem, r_config_has]

theorem f_config_Get (m : List UInt8) (l : List CfPair) (n : List UInt8) (hl : l.length ≤ 1000000) : Meets Tryz.prog E0 n_config_Get [.ag [Str (toB m), .t (.sl 2 (l.map pairT))], Str (toB n)] [] (.tp [Str (toB ((cfGet l n).getD [])), Bo (cfGet l n).isSome]) [] := by
  refine st0 m_config_Get ?_
  have h := (f_IndexFunc_pair l n hl).ren (fun _ => 101) (by simp [keysOf])
  simp only [renL, renA, renS, renO] at h
  have hg := cfIdx_get l n
  have hb := cfIdx_ge (fun s : CfPair => s.1 == n) l
  simp only [go_sem, s_config_Get]
  refine oB (h) ?_
  generalize cfIdx (fun s : CfPair => s.1 == n) l = i at *
  by_cases hi : i < 0
  · have d0 : decide (i < 0) = true := decide_eq_true hi
    rw [if_pos hi] at hg
    rw [hg]
    simp only [go_sem, d0]
    refine wE ?_
    simp only [go_sem, r_config_Get]
    first | done | rfl
  · have d0 : decide (i < 0) = false := decide_eq_false hi
    rw [if_neg hi] at hg
    obtain ⟨k, rfl⟩ : ∃ k : Nat, i = k := ⟨i.toNat, by omega⟩
    obtain ⟨p, hp⟩ := get_of_lt (show k < l.length by omega)
    simp only [Int.toNat_natCast, hp, Option.map_some] at hg
    have hgp : (l.map pairT)[k]? = some (pairT p) := by rw [List.getElem?_map, hp]; rfl
    rw [hg]
    simp only [go_sem, d0, hgp, pairT]
    refine wE ?_
    simp only [go_sem, r_config_Get]
    first | done | rfl

theorem f_ref11_has (l : List CfSec) (n : List UInt8) (hl : l.length ≤ 1000000) : Meets Tryz.prog E0 n_ref11_has [secsV l, Str (toB n)] [] (Bo (cfHas l n)) [] := by
  refine st0 m_ref11_has ?_
  have hlen : (l.map secT).length = l.length := by simp
  simp only [go_sem, s_ref11_has]
  refine W_loop (fun i : Nat => l.length - i) (fun i => i ≤ l.length ∧ cfHas (l.drop i) n = cfHas l n) (fun i => [(0, secsV l), (1, Str (toB n)), (5, I i)]) (fun _ => []) 0 ⟨Nat.zero_le _, by simp⟩ (sR_CfGet [] []) ?_
  rintro i ⟨hi, hh⟩
  by_cases hil : i < l.length
  · have d0 : decide (i < l.length) = true := decide_eq_true hil
    obtain ⟨s, hs⟩ := get_of_lt hil
    have ei : IntKind.i64.wrap ((i : Int) + 1) = ((i + 1 : Nat) : Int) := by rw [wrap_i64_of (by omega) (by omega)]; omega
    have hg : (l.map secT)[i]? = some [.v (.string (toB s.1)), .sl 2 (s.2.map pairT)] := by rw [List.getElem?_map, hs]; rfl
    have q := eqT s.1 n
    rw [drop_get hs, cfHas] at hh
    cases hb : (s.1 == n)
    · rw [hb] at q
      rw [hb, Bool.false_or] at hh
      simp only [go_sem, secsV, hlen, d0, hg, q, ei]
      exact rd_of (i + 1) (by first | omega | (simp only; omega)) ⟨hil, hh⟩ (sR_CfGet [] [])
    · rw [hb] at q
      rw [hb, Bool.true_or] at hh
      rw [← hh]
      simp only [go_sem, secsV, hlen, d0, hg, q, ei]
      refine wE ?_
      simp only [go_sem, r_ref11_has]
  · obtain rfl : i = l.length := by omega
    have d0 : decide (l.length < l.length) = false := decide_eq_false (by omega)
    rw [List.drop_length] at hh
    rw [← hh]
    simp only [go_sem, secsV, hlen, d0]
    refine wE ?_
    simp only [go_sem, r_ref11_has]
    first | done | rfl

theorem f_ref11_Get (m : List UInt8) (l : List CfPair) (n : List UInt8) (hl : l.length ≤ 1000000) : Meets Tryz.prog E0 n_ref11_Get [.ag [Str (toB m), .t (.sl 2 (l.map pairT))], Str (toB n)] [] (.tp [Str (toB ((cfGet l n).getD [])), Bo (cfGet l n).isSome]) [] := by
  refine st0 m_ref11_Get ?_
  have hlen : (l.map pairT).length = l.length := by simp
  simp only [go_sem, s_ref11_Get]
  refine W_loop (fun i : Nat => l.length - i) (fun i => i ≤ l.length ∧ cfGet (l.drop i) n = cfGet l n) (fun i => [(1, Str (toB n)), (2, .ptr 100 0), (4, Str (bs [])), (5, Bo false), (6, I i)]) (fun _ => [(100, .box [Str (toB m), .t (.sl 2 (l.map pairT))])]) 0 ⟨Nat.zero_le _, by simp⟩ (sR_CfGet [] []) ?_
  rintro i ⟨hi, hh⟩
  by_cases hil : i < l.length
  · have d0 : decide (i < l.length) = true := decide_eq_true hil
    obtain ⟨s, hs⟩ := get_of_lt hil
    have ei : IntKind.i64.wrap ((i : Int) + 1) = ((i + 1 : Nat) : Int) := by rw [wrap_i64_of (by omega) (by omega)]; omega
    have hg : (l.map pairT)[i]? = some [.v (.string (toB s.1)), .v (.string (toB s.2))] := by rw [List.getElem?_map, hs]; rfl
    have q := eqT s.1 n
    rw [drop_get hs, cfGet] at hh
    by_cases hb : s.1 = n
    · have hb' : (s.1 == n) = true := by simpa using hb
      rw [hb'] at q
      rw [if_pos hb] at hh
      rw [← hh]
      simp only [go_sem, hlen, d0, hg, q, ei]
      refine wE ?_
      simp only [go_sem, r_ref11_Get]
      first | done | rfl
    · have hb' : (s.1 == n) = false := by simpa using hb
      rw [hb'] at q
      rw [if_neg hb] at hh
      simp only [go_sem, hlen, d0, hg, q, ei]
      exact rd_of (i + 1) (by first | omega | (simp only; omega)) ⟨hil, hh⟩ (sR_CfGet [] [])
  · obtain rfl : i = l.length := by omega
    have d0 : decide (l.length < l.length) = false := decide_eq_false (by omega)
    rw [List.drop_length] at hh
    rw [← hh]
    simp only [go_sem, hlen, d0]
    refine wE ?_
    simp only [go_sem, r_ref11_Get]
    first | done | rfl

end Go.Proofs.YtaeleljlpcjcdaaGreatDoor
namespace Go.Proofs.YtaeleljlpcjcdaaGreatDoor
open Go Go.Sx

/-- Bytes as the bits of a number; its four words. -/
abbrev setL (n : Nat) : List AV := [U ((n % 18446744073709551616 : Nat) : Int), U ((n / 18446744073709551616 % 18446744073709551616 : Nat) : Int), U ((n / 340282366920938463463374607431768211456 % 18446744073709551616 : Nat) : Int), U ((n / (18446744073709551616 * 340282366920938463463374607431768211456) % 18446744073709551616 : Nat) : Int)]
abbrev setV (n : Nat) : AV := .ag (setL n)
abbrev full : Nat := 2 ^ 256 - 1

abbrev Item := Nat × Bool
abbrev itemV (i : Item) : AV := .ag (setL i.1 ++ [Bo i.2])
def itemT (i : Item) : List T := [.v (.int .u64 ((i.1 % 18446744073709551616 : Nat) : Int)), .v (.int .u64 ((i.1 / 18446744073709551616 % 18446744073709551616 : Nat) : Int)), .v (.int .u64 ((i.1 / 340282366920938463463374607431768211456 % 18446744073709551616 : Nat) : Int)), .v (.int .u64 ((i.1 / (18446744073709551616 * 340282366920938463463374607431768211456) % 18446744073709551616 : Nat) : Int)), .v (.bool i.2)]
abbrev itemsV (l : List Item) : AV := .t (.sl 5 (l.map itemT))
abbrev needleV (a b : Bool) (l : List Item) : AV := .ag [Bo a, Bo b, itemsV l]

/-- All bytes from one on, so many. -/
def addM (n b : Nat) : Nat → Nat
  | 0 => n
  | k + 1 => addM (n ||| 2 ^ b) (b + 1) k

def skipM (b : Nat) : List UInt8 → Bool × List UInt8
  | c :: r => if c.toNat = b then (true, r) else (false, c :: r)
  | [] => (false, [])

def rangedB : List UInt8 → Bool
  | d :: h :: _ => d.toNat == 45 && h.toNat != 93
  | _ => false

/-- The rest of a class: the bytes, whether it is one, what is left. -/
def classX : List UInt8 → Bool → Nat → Nat × Bool × List UInt8
  | [], _, n => (n, false, [])
  | c :: r, m, n => if c.toNat = 93 then (n, m, r) else
    match r with
    | [] => classX [] true (n ||| 2 ^ c.toNat)
    | [d] => classX [d] true (n ||| 2 ^ c.toNat)
    | d :: h :: r' => if d.toNat == 45 && h.toNat != 93 then (if h.toNat < c.toNat then (n, false, r') else classX r' true (addM n c.toNat (h.toNat + 1 - c.toNat))) else classX (d :: h :: r') true (n ||| 2 ^ c.toNat)

def cplM (n : Nat) : Nat := full - n

def classM (l : List UInt8) : Nat × Bool × List UInt8 :=
  (if (classX (skipM 94 l).2 false 0).2.1 && (skipM 94 l).1 then cplM (classX (skipM 94 l).2 false 0).1 else (classX (skipM 94 l).2 false 0).1, (classX (skipM 94 l).2 false 0).2.1, (classX (skipM 94 l).2 false 0).2.2)

def atomM : List UInt8 → Nat × Bool × List UInt8
  | [] => (0, false, [])
  | c :: r => if c.toNat = 94 ∨ c.toNat = 36 ∨ c.toNat = 42 ∨ c.toNat = 93 then (0, false, r) else if c.toNat = 46 then (full, true, r) else if c.toNat = 91 then classM r else if c.toNat = 92 then (match r with
    | [] => (1, false, [])
    | d :: r' => (2 ^ d.toNat, true, r')) else (2 ^ c.toNat, true, r)

/-- The items of a pattern; with fuel. -/
def itemsM : Nat → List UInt8 → List Item → Option (Bool × List Item)
  | 0, _, acc => some (false, acc)
  | _ + 1, [], acc => some (false, acc)
  | f + 1, c :: r, acc => if r = [] ∧ c.toNat = 36 then some (true, acc) else if (atomM (c :: r)).2.1 then itemsM f (skipM 42 (atomM (c :: r)).2.2).2 (acc ++ [((atomM (c :: r)).1, (skipM 42 (atomM (c :: r)).2.2).1)]) else none

def compM (l : List UInt8) : (Bool × Bool × List Item) × Int :=
  if 64 < l.length then ((false, false, []), 12) else
    match itemsM (l.length + 1) (skipM 94 l).2 [] with
    | none => ((false, false, []), 10)
    | some (e, is) => (((skipM 94 l).1, e, is), 0)

theorem classX_end (c : UInt8) (r : List UInt8) (m : Bool) (n : Nat) (h : c.toNat = 93) : classX (c :: r) m n = (n, m, r) := by
  rcases r with _ | ⟨d, _ | ⟨x, r⟩⟩ <;> simp [classX, h]

theorem classX_one (c : UInt8) (r : List UInt8) (m : Bool) (n : Nat) (h : ¬ c.toNat = 93) (hr : rangedB r = false) : classX (c :: r) m n = classX r true (n ||| 2 ^ c.toNat) := by
  rcases r with _ | ⟨d, _ | ⟨x, r⟩⟩
  · simp [classX, h]
  · simp [classX, h]
  · simp only [rangedB] at hr
    rw [classX, if_neg h]; simp only [hr]; rfl

theorem classX_range (c d x : UInt8) (r : List UInt8) (m : Bool) (n : Nat) (h : ¬ c.toNat = 93) (hr : rangedB (d :: x :: r) = true) : classX (c :: d :: x :: r) m n = if x.toNat < c.toNat then (n, false, r) else classX r true (addM n c.toNat (x.toNat + 1 - c.toNat)) := by
  simp only [rangedB] at hr
  rw [classX, if_neg h]; simp only [hr, if_true]

theorem ranged_shape {r : List UInt8} (h : rangedB r = true) : ∃ d x r', r = d :: x :: r' := by
  rcases r with _ | ⟨d, _ | ⟨x, r⟩⟩
  · simp [rangedB] at h
  · simp [rangedB] at h
  · exact ⟨d, x, r, rfl⟩

theorem addM_one (n b : Nat) : addM n b 1 = n ||| 2 ^ b := rfl

/-- A word of a number of four. -/
def word (n k : Nat) : Nat := n / 2 ^ (64 * k) % 2 ^ 64

theorem word_bit (n k i : Nat) (hi : i < 64) : (word n k).testBit i = n.testBit (64 * k + i) := by
  rw [word, Nat.testBit_mod_two_pow, Nat.testBit_div_two_pow]; simp [hi, Nat.add_comm]

theorem word_lt (n k : Nat) : word n k < 2 ^ 64 := Nat.mod_lt _ (by decide)

theorem word_eq {n m k : Nat} (h : ∀ i < 64, n.testBit (64 * k + i) = m.testBit (64 * k + i)) : word n k = word m k := by
  apply Nat.eq_of_testBit_eq
  intro i
  by_cases hi : i < 64
  · rw [word_bit _ _ _ hi, word_bit _ _ _ hi, h i hi]
  · rw [Nat.testBit_lt_two_pow (Nat.lt_of_lt_of_le (word_lt n k) (Nat.pow_le_pow_right (by decide) (by omega))), Nat.testBit_lt_two_pow (Nat.lt_of_lt_of_le (word_lt m k) (Nat.pow_le_pow_right (by decide) (by omega)))]

theorem word_or_same (n k b : Nat) (h : b / 64 = k) : word (n ||| 2 ^ b) k = word n k ||| 2 ^ (b % 64) := by
  apply Nat.eq_of_testBit_eq
  intro i
  by_cases hi : i < 64
  · rw [word_bit _ _ _ hi, Nat.testBit_or, Nat.testBit_or, word_bit _ _ _ hi, Nat.testBit_two_pow, Nat.testBit_two_pow]
    congr 1
    rw [decide_eq_decide]; omega
  · have h1 : word n k ||| 2 ^ (b % 64) < 2 ^ 64 := Nat.or_lt_two_pow (word_lt n k) (Nat.pow_lt_pow_right (by decide) (by omega))
    rw [Nat.testBit_lt_two_pow (Nat.lt_of_lt_of_le (word_lt _ k) (Nat.pow_le_pow_right (by decide) (by omega))), Nat.testBit_lt_two_pow (Nat.lt_of_lt_of_le h1 (Nat.pow_le_pow_right (by decide) (by omega)))]

theorem word_or_other (n k b : Nat) (h : b / 64 ≠ k) : word (n ||| 2 ^ b) k = word n k := by
  apply word_eq
  intro i hi
  rw [Nat.testBit_or, Nat.testBit_two_pow]
  have : ¬ b = 64 * k + i := by omega
  simp [this]

theorem word0 (n : Nat) : n % 18446744073709551616 = word n 0 := by simp [word]
theorem word1 (n : Nat) : n / 18446744073709551616 % 18446744073709551616 = word n 1 := rfl
theorem word2 (n : Nat) : n / 340282366920938463463374607431768211456 % 18446744073709551616 = word n 2 := rfl
theorem word3 (n : Nat) : n / (18446744073709551616 * 340282366920938463463374607431768211456) % 18446744073709551616 = word n 3 := rfl

theorem words_inj {n m : Nat} (hn : n < 2 ^ 256) (hm : m < 2 ^ 256) (h0 : word n 0 = word m 0) (h1 : word n 1 = word m 1) (h2 : word n 2 = word m 2) (h3 : word n 3 = word m 3) : n = m := by
  apply Nat.eq_of_testBit_eq
  intro i
  by_cases hi : i < 256
  · have key : ∀ k, word n k = word m k → i / 64 = k → n.testBit i = m.testBit i := by
      intro k hk hik
      have := word_bit n k (i % 64) (by omega)
      have h' := word_bit m k (i % 64) (by omega)
      rw [hk, h', show 64 * k + i % 64 = i by omega] at this
      exact this.symm
    have : i / 64 = 0 ∨ i / 64 = 1 ∨ i / 64 = 2 ∨ i / 64 = 3 := by omega
    rcases this with h | h | h | h
    · exact key 0 h0 h
    · exact key 1 h1 h
    · exact key 2 h2 h
    · exact key 3 h3 h
  · rw [Nat.testBit_lt_two_pow (Nat.lt_of_lt_of_le hn (Nat.pow_le_pow_right (by decide) (by omega))), Nat.testBit_lt_two_pow (Nat.lt_of_lt_of_le hm (Nat.pow_le_pow_right (by decide) (by omega)))]

theorem full_bit (i : Nat) (h : i < 256) : Nat.testBit full i = true := by
  rw [Nat.testBit_two_pow_sub_one]; simpa using h

theorem cpl_bit (n i : Nat) (hn : n < 2 ^ 256) (h : i < 256) : (cplM n).testBit i = !n.testBit i := by
  unfold cplM
  rw [Nat.sub_sub, Nat.add_comm 1 n, Nat.testBit_two_pow_sub_succ hn]
  simp [h]

theorem cpl_lt (n : Nat) : cplM n < 2 ^ 256 := by unfold cplM; exact Nat.lt_of_le_of_lt (Nat.sub_le _ _) (by decide)

theorem addM_lt : ∀ (k n b : Nat), n < 2 ^ 256 → b + k ≤ 256 → addM n b k < 2 ^ 256
  | 0, n, b, h, _ => h
  | k + 1, n, b, h, hb => addM_lt k _ _ (Nat.or_lt_two_pow h (Nat.pow_lt_pow_right (by decide) (by omega))) (by omega)

theorem addM_snoc : ∀ (k n b : Nat), addM n b (k + 1) = addM n b k ||| 2 ^ (b + k)
  | 0, n, b => rfl
  | k + 1, n, b => by
    rw [addM, addM_snoc k (n ||| 2 ^ b) (b + 1), addM]
    congr 2; omega

theorem addM_bit : ∀ (k n b i : Nat), (addM n b k).testBit i = (n.testBit i || (decide (b ≤ i) && decide (i < b + k)))
  | 0, n, b, i => by
    have : (decide (b ≤ i) && decide (i < b + 0)) = false := by simp
    simp only [addM, this, Bool.or_false]
  | k + 1, n, b, i => by
    rw [addM_snoc, Nat.testBit_or, addM_bit k n b i, Nat.testBit_two_pow, Bool.or_assoc]
    congr 1
    rw [Bool.eq_iff_iff]; simp; omega

theorem skip_suf (b : Nat) (l : List UInt8) : (skipM b l).2 <:+ l := by
  cases l with
  | nil => simp [skipM]
  | cons c r => simp only [skipM]; split
                · exact List.suffix_cons c r
                · exact List.suffix_refl _

theorem classX_suf : ∀ (k : Nat) (l : List UInt8) (m : Bool) (n : Nat), l.length ≤ k → (classX l m n).2.2 <:+ l
  | _, [], _, _, _ => by simp [classX]
  | 0, _ :: _, _, _, h => by simp at h
  | k + 1, c :: r, m, n, h => by
    by_cases h1 : c.toNat = 93
    · rw [classX_end c r m n h1]; exact List.suffix_cons c r
    · cases hr : rangedB r with
      | false => rw [classX_one c r m n h1 hr]; exact (classX_suf k r _ _ (by simpa using h)).trans (List.suffix_cons c r)
      | true =>
        obtain ⟨d, x, r', rfl⟩ := ranged_shape hr
        rw [classX_range c d x r' m n h1 hr]
        have hs : r' <:+ c :: d :: x :: r' := (List.suffix_cons x r').trans ((List.suffix_cons d _).trans (List.suffix_cons c _))
        split
        · exact hs
        · exact (classX_suf k r' _ _ (by simp at h; omega)).trans hs

theorem classX_lt : ∀ (k : Nat) (l : List UInt8) (m : Bool) (n : Nat), l.length ≤ k → n < 2 ^ 256 → (classX l m n).1 < 2 ^ 256
  | _, [], _, n, _, hn => by simpa [classX] using hn
  | 0, _ :: _, _, _, h, _ => by simp at h
  | k + 1, c :: r, m, n, h, hn => by
    have hc := u8_lt c
    by_cases h1 : c.toNat = 93
    · rw [classX_end c r m n h1]; exact hn
    · cases hr : rangedB r with
      | false => rw [classX_one c r m n h1 hr]; exact classX_lt k r _ _ (by simpa using h) (Nat.or_lt_two_pow hn (Nat.pow_lt_pow_right (by decide) hc))
      | true =>
        obtain ⟨d, x, r', rfl⟩ := ranged_shape hr
        have hx := u8_lt x
        rw [classX_range c d x r' m n h1 hr]
        split
        · exact hn
        · exact classX_lt k r' _ _ (by simp at h; omega) (addM_lt _ _ _ hn (by omega))

theorem classM_suf (l : List UInt8) : (classM l).2.2 <:+ l := (classX_suf _ _ _ _ (Nat.le_refl _)).trans (skip_suf 94 l)

theorem cpl_lt2 (n : Nat) : cplM n < 2 ^ 256 := cpl_lt n

theorem classM_lt (l : List UInt8) : (classM l).1 < 2 ^ 256 := by
  unfold classM
  simp only
  split
  · exact cpl_lt _
  · exact classX_lt _ _ _ _ (Nat.le_refl _) (Nat.two_pow_pos _)

theorem atomM_suf (c : UInt8) (r : List UInt8) : (atomM (c :: r)).2.2 <:+ r := by
  simp only [atomM]
  split
  · exact List.suffix_refl _
  split
  · exact List.suffix_refl _
  split
  · exact classM_suf r
  split
  · cases r with
    | nil => exact List.suffix_refl _
    | cons d r => exact List.suffix_cons d r
  · exact List.suffix_refl _

theorem atomM_lt (l : List UInt8) : (atomM l).1 < 2 ^ 256 := by
  cases l with
  | nil => exact Nat.two_pow_pos _
  | cons c r =>
    have hc := u8_lt c
    have pw : ∀ d : UInt8, 2 ^ d.toNat < 2 ^ 256 := fun d => Nat.pow_lt_pow_right (by decide) (u8_lt d)
    simp only [atomM]
    split
    · exact Nat.two_pow_pos _
    split
    · show full < 2 ^ 256
      decide
    split
    · exact classM_lt r
    split
    · cases r with
      | nil => show 1 < 2 ^ 256
               decide
      | cons d r => exact pw d
    · exact pw c

theorem full_add : addM 0 0 256 = full := by
  apply words_inj (addM_lt _ _ _ (Nat.two_pow_pos _) (by decide)) (by decide)
  all_goals
    apply word_eq
    intro i hi
    rw [addM_bit, full_bit _ (by omega)]
    simp; omega

theorem one_add (b : Nat) : addM 0 b 1 = 2 ^ b := by simp [addM]

theorem itemsM_len : ∀ (f : Nat) (l : List UInt8) (acc : List Item) (e : Bool) (is : List Item), itemsM f l acc = some (e, is) → is.length ≤ acc.length + l.length
  | 0, l, acc, e, is, h => by simp only [itemsM, Option.some.injEq, Prod.mk.injEq] at h; rw [← h.2]; omega
  | f + 1, [], acc, e, is, h => by simp only [itemsM, Option.some.injEq, Prod.mk.injEq] at h; rw [← h.2]; omega
  | f + 1, c :: r, acc, e, is, h => by
    simp only [itemsM] at h
    split at h
    · simp only [Option.some.injEq, Prod.mk.injEq] at h; rw [← h.2]; omega
    · split at h
      · have := itemsM_len f _ _ e is h
        have h1 := (skip_suf 42 (atomM (c :: r)).2.2).length_le
        have h2 := (atomM_suf c r).length_le
        simp at this ⊢; omega
      · cases h

theorem compM_len (l : List UInt8) : (compM l).1.2.2.length ≤ 64 := by
  unfold compM
  split
  · simp
  · cases h : itemsM (l.length + 1) (skipM 94 l).2 [] with
    | none => simp
    | some x =>
      obtain ⟨e, is⟩ := x
      have h1 := itemsM_len _ _ _ _ _ h
      have h2 := (skip_suf 94 l).length_le
      simp at h1 ⊢; omega

end Go.Proofs.YtaeleljlpcjcdaaGreatDoor
namespace Go.Proofs.YtaeleljlpcjcdaaGreatDoor
open Go Go.Sx

abbrev bT (b : Bool) : List T := [.v (.bool b)]
abbrev boolsV (l : List Bool) : AV := .t (.sl 1 (l.map bT))

def starAt (is : List Item) (i : Nat) : Bool := (is[i]?.map (·.2)).getD false
def fitAt (is : List Item) (i b : Nat) : Bool := (is[i]?.map fun x => x.1.testBit b).getD false

/-- An item may come next, and those behind it. -/
def reachM (is : List Item) : Nat → Nat → List Bool → List Bool
  | 0, _, s => s
  | f + 1, i, s => if s.getD i false then s else if starAt is i then reachM is f (i + 1) (s.set i true) else s.set i true

/-- The states behind a byte: so many items are looked at. -/
def stepN (is : List Item) (s : List Bool) (b : Nat) : Nat → List Bool
  | 0 => List.replicate (is.length + 1) false
  | k + 1 => if s.getD k false && fitAt is k b then reachM is (is.length + 1) (if starAt is k then k else k + 1) (stepN is s b k) else stepN is s b k
def stepM (is : List Item) (s : List Bool) (b : Nat) : List Bool := stepN is s b is.length

def walkM (start stop : Bool) (is : List Item) : List UInt8 → List Bool → Bool
  | [], s => s.getD is.length false
  | c :: r, s => if s.getD is.length false && !stop then true else walkM start stop is r (if start then stepM is s c.toNat else reachM is (is.length + 1) 0 (stepM is s c.toNat))
def foundM (start stop : Bool) (is : List Item) (tx : List UInt8) : Bool := walkM start stop is tx (reachM is (is.length + 1) 0 (List.replicate (is.length + 1) false))

theorem reachM_len (is : List Item) : ∀ (f i : Nat) (s : List Bool), (reachM is f i s).length = s.length
  | 0, _, _ => rfl
  | f + 1, i, s => by
    simp only [reachM]
    split
    · rfl
    · split
      · rw [reachM_len is f]; simp
      · simp

theorem stepN_len (is : List Item) (s : List Bool) (b : Nat) : ∀ k, (stepN is s b k).length = is.length + 1
  | 0 => by simp [stepN]
  | k + 1 => by
    simp only [stepN]
    split
    · rw [reachM_len, stepN_len is s b k]
    · exact stepN_len is s b k

theorem stepM_len (is : List Item) (s : List Bool) (b : Nat) : (stepM is s b).length = is.length + 1 := stepN_len is s b _

/-! ### Where the items so far can end -/

def nextE (star : Bool) (fit : Nat → Bool) (E : Nat → Bool) : Nat → Bool
  | 0 => star && E 0
  | k + 1 => if star then E (k + 1) || (nextE star fit E k && fit k) else E k && fit k

def fitTx (tx : List UInt8) (n : Nat) (k : Nat) : Bool := (tx[k]?.map fun c => n.testBit c.toNat).getD false

def endsE (start : Bool) (tx : List UInt8) : List Item → (Nat → Bool) → (Nat → Bool)
  | [], E => E
  | x :: is, E => endsE start tx is (nextE x.2 (fitTx tx x.1) E)

def firstE (start : Bool) : Nat → Bool := fun k => !start || k == 0
def refM (start stop : Bool) (is : List Item) (tx : List UInt8) : Bool :=
  if stop then endsE start tx is (firstE start) tx.length else (List.range (tx.length + 1)).any (endsE start tx is (firstE start))

end Go.Proofs.YtaeleljlpcjcdaaGreatDoor
namespace Go.Proofs.YtaeleljlpcjcdaaGreatDoor
open Go Go.Sx

/-- A byte. -/
abbrev U8 (n : Nat) : AV := .t (.v (.int .u8 ((n : Nat) : Int)))

/-- The reader of a pattern, ahead of what is left. -/
abbrev pst (s : ByteArray) (rest : List UInt8) : Ob := .box [.t (.v (.string s)), I ((s.size - rest.length : Nat) : Int)]

theorem wO_NdParse {io : List Nat} {env : List (Nat × AV)} {sto : List (Nat × Ob)} {res : List RV} {r : AV} {e : Exit} {outs : List (Nat × Ob)} (rn : List (Nat × Nat)) (sn : List Nat) (hr : ∃ raw, (resL env sto res).map packR = some raw ∧ wkV (stoOf sto) sn (ren rn) raw r) (he : e = .ret ∨ e = .normal := by first | exact Or.inl rfl | exact Or.inr rfl)
    (hi : ∀ i ∈ r.ids, i ∈ keysOf outs := by simp [AV.ids, idsL, keysOf]) (h2 : stoS sto sn rn outs outs := by simp [stoS, wkO, ls_cons, ls_nil, stoOf, ren, keysOf, Ob.ids, wkV, wkL, AV.one, idsL, AV.ids, setL, pst] <;> assumption) (h3 : ((keysOf outs).map (ren rn)).Nodup := by simp [keysOf, ren])
    (h4 : ∀ i ∈ sn, 100 ≤ i ∧ isRow (stoOf sto i) = true ∧ ∀ j ∈ keysOf outs, ren rn j ≠ i := by simp [stoOf, keysOf, ren]) (h5 : ∀ i ∈ io, ren rn i = i := by simp [keysOf, ren]) (h6 : ∀ i ∈ keysOf outs, ren rn i ∈ io → i = ren rn i := by simp [keysOf, ren]) :
    SEnds io res r outs e ⟨envOf env, stoOf sto⟩ := wO rn sn hr he hi h2 h3 h4 h5 h6

theorem sR_NdParse {io : List Nat} {env : List (Nat × AV)} {sto : List (Nat × Ob)} {env' : List (Nat × AV)} {sto' : List (Nat × Ob)} (rn : List (Nat × Nat)) (sn : List Nat)
    (h1 : envS sto sn rn env sto' env' := by simp [envS, go_sem, wkV, wkL, AV.ids, idsL, keysOf, ren, stoOf, slTrees, AV.asOwn, rowPart, AV.isNil, shA, rowsT, cellsT, cellT, wkLL, setL, pst] <;> assumption)
    (h2 : stoS sto sn rn sto' sto' := by simp [stoS, go_sem, wkV, wkL, wkO, AV.ids, Ob.ids, idsL, keysOf, ren, AV.one, stoOf, slTrees, AV.asOwn, rowPart, AV.isNil, shA, rowsT, cellsT, cellT, wkLL, setL, pst] <;> assumption)
    (h3 : ((keysOf sto').map (ren rn)).Nodup := by simp [keysOf, ren]) (h4 : ∀ i ∈ sn, 100 ≤ i ∧ isRow (stoOf sto i) = true ∧ ∀ j ∈ keysOf sto', ren rn j ≠ i := by simp [stoOf, keysOf, ren])
    (h5 : ∀ i ∈ io, ren rn i = i := by simp [keysOf, ren]) (h6 : ∀ i ∈ keysOf sto', ren rn i ∈ io → i = ren rn i := by simp [keysOf, ren]) :
    Sub io ⟨envOf env, stoOf sto⟩ ⟨envOf env', stoOf sto'⟩ := subL rn sn h1 h2 h3 h4 h5 h6

theorem f_parser_more0 (s : ByteArray) (rest : List UInt8) (h : Suf s rest) : Meets Tryz.prog E0 n_needle_parser_more [.ptr 0 0] [(0, pst s rest)] (Bo (!rest.isEmpty)) [(0, pst s rest)] := by
  refine m_needle_parser_more (by simp) (shut_of (by simp [idsL, AV.ids, keysOf, setL, pst]) (by simp [Ob.live, Ob.ids, keysOf, idsL, AV.ids, setL, pst])) (shut_of (by simp [idsL, AV.ids, keysOf, setL, pst]) (by simp [Ob.live, Ob.ids, keysOf, idsL, AV.ids, setL, pst])) (by simp [keysOf]) (by simp [keysOf]) ?_
  simp only [go_sem, s_needle_parser_more]
  refine wO_NdParse [] [] ?_
  simp only [go_sem, r_needle_parser_more, exists_eq_left', Option.some.injEq]
  have := h.len
  cases rest with
  | nil => simp [wkV, wkL, slTrees, AV.asOwn, rowPart, stoOf, AV.isNil, shA, rowsT, cellsT, cellT]
  | cons c r => simp [wkV, wkL, slTrees, AV.asOwn, rowPart, stoOf, AV.isNil, shA, rowsT, cellsT, cellT]; simp at this; omega

theorem f_parser_more (id : Nat) (s : ByteArray) (rest : List UInt8) (h : Suf s rest) : Meets Tryz.prog E0 n_needle_parser_more [.ptr id 0] [(id, pst s rest)] (Bo (!rest.isEmpty)) [(id, pst s rest)] := by
  have := (f_parser_more0 s rest h).ren (fun _ => id) (by simp [keysOf])
  exact this

theorem suf_one {s : ByteArray} {c : UInt8} {r : List UInt8} (h : Suf s (c :: r)) : s[s.size - (r.length + 1)]? = some c ∧ s.size - (r.length + 1) + 1 = s.size - r.length ∧ s.size - (r.length + 1) < s.size := by
  have h1 := h.get 0
  have := h.len
  simp at h1 this
  exact ⟨h1, by omega, by omega⟩

theorem f_parser_skip0 (b : Nat) (s : ByteArray) (rest : List UInt8) (h : Suf s rest) (hs : s.size < 4611686018427387904) : Meets Tryz.prog E0 n_needle_parser_skip [.ptr 0 0, U8 b] [(0, pst s rest)] (Bo (skipM b rest).1) [(0, pst s (skipM b rest).2)] := by
  refine m_needle_parser_skip (by simp) (shut_of (by simp [idsL, AV.ids, keysOf, setL, pst]) (by simp [Ob.live, Ob.ids, keysOf, idsL, AV.ids, setL, pst])) (shut_of (by simp [idsL, AV.ids, keysOf, setL, pst]) (by simp [Ob.live, Ob.ids, keysOf, idsL, AV.ids, setL, pst])) (by simp [keysOf]) (by simp [keysOf]) ?_
  simp only [go_sem, s_needle_parser_skip]
  refine oB (f_parser_more 0 s rest h) ?_
  cases rest with
  | nil =>
    simp only [go_sem, List.isEmpty_nil, skipM]
    refine wO_NdParse [] [] ?_
    simp only [go_sem, r_needle_parser_skip, exists_eq_left', Option.some.injEq]
    simp [wkV, wkL, slTrees, AV.asOwn, rowPart, stoOf, AV.isNil, shA, rowsT, cellsT, cellT]
  | cons c r =>
    obtain ⟨hg, hl, hlt⟩ := suf_one h
    cases hc : decide (c.toNat = b)
    · simp at hc
      rw [show skipM b (c :: r) = (false, c :: r) from by simp [skipM, hc]]
      simp only [go_sem, hg, show decide (c.toNat = b) = false from by simp [hc]]
      refine wO_NdParse [] [] ?_
      simp only [go_sem, r_needle_parser_skip, exists_eq_left', Option.some.injEq]
      simp [wkV, wkL, slTrees, AV.asOwn, rowPart, stoOf, AV.isNil, shA, rowsT, cellsT, cellT]
    · simp at hc
      rw [show skipM b (c :: r) = (true, r) from by simp [skipM, hc]]
      have e1 : IntKind.i64.wrap (((s.size - (r.length + 1) : Nat) : Int) + 1) = ((s.size - r.length : Nat) : Int) := by rw [wrap_i64_of (by omega) (by omega)]; omega
      simp only [go_sem, hg, hc, decide_true, e1]
      refine wO_NdParse [] [] ?_
      simp only [go_sem, r_needle_parser_skip, exists_eq_left', Option.some.injEq]
      simp [wkV, wkL, slTrees, AV.asOwn, rowPart, stoOf, AV.isNil, shA, rowsT, cellsT, cellT]

theorem f_parser_skip (id b : Nat) (s : ByteArray) (rest : List UInt8) (h : Suf s rest) (hs : s.size < 4611686018427387904) : Meets Tryz.prog E0 n_needle_parser_skip [.ptr id 0, U8 b] [(id, pst s rest)] (Bo (skipM b rest).1) [(id, pst s (skipM b rest).2)] := by
  have := (f_parser_skip0 b s rest h hs).ren (fun _ => id) (by simp [keysOf])
  exact this

def nextM : List UInt8 → Nat × Bool × List UInt8
  | [] => (0, false, [])
  | c :: r => (c.toNat, true, r)

theorem f_parser_next0 (s : ByteArray) (rest : List UInt8) (h : Suf s rest) (hs : s.size < 4611686018427387904) : Meets Tryz.prog E0 n_needle_parser_next [.ptr 0 0] [(0, pst s rest)] (.tp [U8 (nextM rest).1, Bo (nextM rest).2.1]) [(0, pst s (nextM rest).2.2)] := by
  refine m_needle_parser_next (by simp) (shut_of (by simp [idsL, AV.ids, keysOf, setL, pst]) (by simp [Ob.live, Ob.ids, keysOf, idsL, AV.ids, setL, pst])) (shut_of (by simp [idsL, AV.ids, keysOf, setL, pst]) (by simp [Ob.live, Ob.ids, keysOf, idsL, AV.ids, setL, pst])) (by simp [keysOf]) (by simp [keysOf]) ?_
  simp only [go_sem, s_needle_parser_next]
  refine oB (f_parser_more 0 s rest h) ?_
  cases rest with
  | nil =>
    simp only [go_sem, List.isEmpty_nil, nextM]
    refine wO_NdParse [] [] ?_
    simp only [go_sem, r_needle_parser_next, exists_eq_left', Option.some.injEq]
    simp [wkV, wkL, slTrees, AV.asOwn, rowPart, stoOf, AV.isNil, shA, rowsT, cellsT, cellT]
  | cons c r =>
    obtain ⟨hg, hl, hlt⟩ := suf_one h
    have e1 : IntKind.i64.wrap (((s.size - (r.length + 1) : Nat) : Int) + 1) = ((s.size - r.length : Nat) : Int) := by rw [wrap_i64_of (by omega) (by omega)]; omega
    have e2 : IntKind.i64.wrap (((s.size - r.length : Nat) : Int) - 1) = ((s.size - (r.length + 1) : Nat) : Int) := by rw [wrap_i64_of (by omega) (by omega)]; omega
    simp only [go_sem, e1, e2, hg, nextM]
    refine wO_NdParse [] [] ?_
    simp only [go_sem, r_needle_parser_next, exists_eq_left', Option.some.injEq]
    simp [wkV, wkL, slTrees, AV.asOwn, rowPart, stoOf, AV.isNil, shA, rowsT, cellsT, cellT]

theorem f_parser_next (id : Nat) (s : ByteArray) (rest : List UInt8) (h : Suf s rest) (hs : s.size < 4611686018427387904) : Meets Tryz.prog E0 n_needle_parser_next [.ptr id 0] [(id, pst s rest)] (.tp [U8 (nextM rest).1, Bo (nextM rest).2.1]) [(id, pst s (nextM rest).2.2)] := by
  have := (f_parser_next0 s rest h hs).ren (fun _ => id) (by simp [keysOf])
  exact this

theorem f_parser_ranged0 (s : ByteArray) (rest : List UInt8) (h : Suf s rest) (hs : s.size < 4611686018427387904) : Meets Tryz.prog E0 n_needle_parser_ranged [.ptr 0 0] [(0, pst s rest)] (Bo (rangedB rest)) [(0, pst s rest)] := by
  refine m_needle_parser_ranged (by simp) (shut_of (by simp [idsL, AV.ids, keysOf, setL, pst]) (by simp [Ob.live, Ob.ids, keysOf, idsL, AV.ids, setL, pst])) (shut_of (by simp [idsL, AV.ids, keysOf, setL, pst]) (by simp [Ob.live, Ob.ids, keysOf, idsL, AV.ids, setL, pst])) (by simp [keysOf]) (by simp [keysOf]) ?_
  have hl := h.len
  rcases rest with _ | ⟨d, _ | ⟨x, r⟩⟩
  · have d1 : decide (((s.size : Nat) : Int) + 1 < ((s.size : Nat) : Int)) = false := by simp; omega
    ((try simp only [go_sem, s_needle_parser_ranged, Nat.sub_zero, d1]); repeat (simp (disch := omega) only [wrap_i64_of, i64_quo, i64_rem, sdiv, smod]; (try simp only [go_sem, s_needle_parser_ranged, Nat.sub_zero, d1])))
    refine wO_NdParse [] [] ?_
    simp only [go_sem, r_needle_parser_ranged, exists_eq_left', Option.some.injEq]
    simp [wkV, wkL, slTrees, AV.asOwn, rowPart, stoOf, AV.isNil, shA, rowsT, cellsT, cellT, rangedB]
  · have d1 : decide (((s.size - 1 : Nat) : Int) + 1 < ((s.size : Nat) : Int)) = false := by simp at hl; simp; omega
    ((try simp only [go_sem, s_needle_parser_ranged, d1]); repeat (simp (disch := omega) only [wrap_i64_of, i64_quo, i64_rem, sdiv, smod]; (try simp only [go_sem, s_needle_parser_ranged, d1])))
    refine wO_NdParse [] [] ?_
    simp only [go_sem, r_needle_parser_ranged, exists_eq_left', Option.some.injEq]
    simp [wkV, wkL, slTrees, AV.asOwn, rowPart, stoOf, AV.isNil, shA, rowsT, cellsT, cellT, rangedB]
  · simp at hl
    obtain ⟨g1, g2, g3⟩ := suf_one h
    obtain ⟨k1, k2, k3⟩ := suf_one h.tail
    simp only [List.length_cons] at g1 g2 g3
    have e1 : IntKind.i64.wrap (((s.size - (r.length + 1 + 1) : Nat) : Int) + 1) = ((s.size - (r.length + 1) : Nat) : Int) := by rw [wrap_i64_of (by omega) (by omega)]; omega
    have d1 : decide (s.size - (r.length + 1) < s.size) = true := by simp; omega
    cases hd : decide (d.toNat = 45)
    · simp only [go_sem, s_needle_parser_ranged, e1, d1, g1, hd]
      refine wO_NdParse [] [] ?_
      simp only [go_sem, r_needle_parser_ranged, exists_eq_left', Option.some.injEq]
      simp at hd
      simp [wkV, wkL, slTrees, AV.asOwn, rowPart, stoOf, AV.isNil, shA, rowsT, cellsT, cellT, rangedB, hd]
    · simp only [go_sem, s_needle_parser_ranged, e1, d1, g1, hd, k1]
      refine wO_NdParse [] [] ?_
      simp only [go_sem, r_needle_parser_ranged, exists_eq_left', Option.some.injEq]
      simp at hd
      by_cases hx : x.toNat = 93 <;> simp [wkV, wkL, slTrees, AV.asOwn, rowPart, stoOf, AV.isNil, shA, rowsT, cellsT, cellT, rangedB, hd, hx]

theorem f_parser_ranged (id : Nat) (s : ByteArray) (rest : List UInt8) (h : Suf s rest) (hs : s.size < 4611686018427387904) : Meets Tryz.prog E0 n_needle_parser_ranged [.ptr id 0] [(id, pst s rest)] (Bo (rangedB rest)) [(id, pst s rest)] := by
  have := (f_parser_ranged0 s rest h hs).ren (fun _ => id) (by simp [keysOf])
  exact this

theorem f_set_add0 (n lo hi : Nat) (hn : n < 2 ^ 256) (hlo : lo < 256) (hhi : hi < 256) : Meets Tryz.prog E0 n_needle_set_add [.ptr 0 0, U8 lo, U8 hi] [(0, .box (setL n))] (.tp []) [(0, .box (setL (addM n lo (hi + 1 - lo))))] := by
  refine m_needle_set_add (by simp) (shut_of (by simp [idsL, AV.ids, keysOf, setL, pst]) (by simp [Ob.live, Ob.ids, keysOf, idsL, AV.ids, setL, pst])) (shut_of (by simp [idsL, AV.ids, keysOf, setL, pst]) (by simp [Ob.live, Ob.ids, keysOf, idsL, AV.ids, setL, pst])) (by simp [keysOf]) (by simp [keysOf]) ?_
  ((try simp only [go_sem, s_needle_set_add]); repeat (simp (disch := omega) only [wrap_i64_of, i64_quo, i64_rem, sdiv, smod]; (try simp only [go_sem, s_needle_set_add])))
  refine W_loop (fun k : Nat => hi + 1 - lo - k) (fun k => k ≤ hi + 1 - lo)
    (fun k => [(0, .ptr 0 0), (1, U8 lo), (2, U8 hi), (6, I ((lo + k : Nat) : Int))])
    (fun k => [(0, .box (setL (addM n lo k)))])
    0 (by omega) ?_ ?_
  · rw [show addM n lo 0 = n from rfl]
    exact (sR_NdParse [] [])
  · intro k hk
    ((try simp only [go_sem]); repeat (simp (disch := omega) only [wrap_i64_of, i64_quo, i64_rem, sdiv, smod]; (try simp only [go_sem])))
    refine W_split rfl (fun h1 => ?_) (fun h1 => ?_)
    · simp at h1
      generalize hm : addM n lo k = m
      have hand : binInt .and .i64 ((lo + k : Nat) : Int) 63 = some (.int .i64 (((lo + k) % 64 : Nat) : Int)) := by
        have := i64_and_nat (a := lo + k) (b := 63) (by omega) (by decide)
        rw [show (lo + k) &&& 63 = (lo + k) % 64 from Nat.and_two_pow_sub_one_eq_mod (lo + k) 6] at this
        exact this
      have hshr : (lo + k) / 2 ^ (min 6 64) = (lo + k) / 64 := rfl
      have hmin : min ((lo + k) % 64) 64 = (lo + k) % 64 := Nat.min_eq_left (by omega)
      have h4 : (lo + k) / 64 = 0 ∨ (lo + k) / 64 = 1 ∨ (lo + k) / 64 = 2 ∨ (lo + k) / 64 = 3 := by omega
      have i4 : ∀ j : Nat, j < 4 → (j : Int) < ((4 : Nat) : Int) := by omega
      have o1 : (lo + k) / 64 ≠ 0 → (m ||| 2 ^ (lo + k)) % 18446744073709551616 = m % 18446744073709551616 := fun h => by rw [word0, word0, word_or_other _ _ _ h]
      have o2 : (lo + k) / 64 ≠ 1 → (m ||| 2 ^ (lo + k)) / 18446744073709551616 % 18446744073709551616 = m / 18446744073709551616 % 18446744073709551616 := fun h => by rw [word1, word1, word_or_other _ _ _ h]
      have o3 : (lo + k) / 64 ≠ 2 → (m ||| 2 ^ (lo + k)) / 340282366920938463463374607431768211456 % 18446744073709551616 = m / 340282366920938463463374607431768211456 % 18446744073709551616 := fun h => by rw [word2, word2, word_or_other _ _ _ h]
      have o4 : (lo + k) / 64 ≠ 3 → (m ||| 2 ^ (lo + k)) / (18446744073709551616 * 340282366920938463463374607431768211456) % 18446744073709551616 = m / (18446744073709551616 * 340282366920938463463374607431768211456) % 18446744073709551616 := fun h => by rw [word3, word3, word_or_other _ _ _ h]
      have p0 : 2 ^ ((lo + k) % 64) % 18446744073709551616 = 2 ^ ((lo + k) % 64) := Nat.mod_eq_of_lt (Nat.pow_lt_pow_right (n := 64) (by decide) (by omega))
      have p1 : (lo + k) / 64 = 0 → (m ||| 2 ^ (lo + k)) % 18446744073709551616 = m % 18446744073709551616 % 18446744073709551616 ||| 2 ^ ((lo + k) % 64) := fun h => by rw [Nat.mod_mod, word0, word0, word_or_same _ _ _ h]
      have p2 : (lo + k) / 64 = 1 → (m ||| 2 ^ (lo + k)) / 18446744073709551616 % 18446744073709551616 = m / 18446744073709551616 % 18446744073709551616 % 18446744073709551616 ||| 2 ^ ((lo + k) % 64) := fun h => by rw [Nat.mod_mod, word1, word1, word_or_same _ _ _ h]
      have p3 : (lo + k) / 64 = 2 → (m ||| 2 ^ (lo + k)) / 340282366920938463463374607431768211456 % 18446744073709551616 = m / 340282366920938463463374607431768211456 % 18446744073709551616 % 18446744073709551616 ||| 2 ^ ((lo + k) % 64) := fun h => by rw [Nat.mod_mod, word2, word2, word_or_same _ _ _ h]
      have p4 : (lo + k) / 64 = 3 → (m ||| 2 ^ (lo + k)) / (18446744073709551616 * 340282366920938463463374607431768211456) % 18446744073709551616 = m / (18446744073709551616 * 340282366920938463463374607431768211456) % 18446744073709551616 % 18446744073709551616 ||| 2 ^ ((lo + k) % 64) := fun h => by rw [Nat.mod_mod, word3, word3, word_or_same _ _ _ h]
      have ek : IntKind.i64.wrap (((lo + k : Nat) : Int) + 1) = ((lo + (k + 1) : Nat) : Int) := by rw [wrap_i64_of (by omega) (by omega)]; omega
      rcases h4 with h4 | h4 | h4 | h4
      · have q1 := p1 h4
        have q2 := o2 (by omega)
        have q3 := o3 (by omega)
        have q4 := o4 (by omega)
        ((try simp only [go_sem, hand, hshr, hmin, h4, i4 0 (by decide), setL, ek, p0]); repeat (simp (disch := omega) only [wrap_i64_of, i64_quo, i64_rem, sdiv, smod]; (try simp only [go_sem, hand, hshr, hmin, h4, i4 0 (by decide), setL, ek, p0])))
        refine rd_of (k + 1) (by first | omega | (simp only; omega)) (by first | omega | (simp only; omega)) ?_
        rw [addM_snoc, hm]
        simp only [setL, q1, q2, q3, q4]
        exact (sR_NdParse [] [])
      · have q1 := o1 (by omega)
        have q2 := p2 h4
        have q3 := o3 (by omega)
        have q4 := o4 (by omega)
        ((try simp only [go_sem, hand, hshr, hmin, h4, i4 1 (by decide), setL, ek, p0]); repeat (simp (disch := omega) only [wrap_i64_of, i64_quo, i64_rem, sdiv, smod]; (try simp only [go_sem, hand, hshr, hmin, h4, i4 1 (by decide), setL, ek, p0])))
        refine rd_of (k + 1) (by first | omega | (simp only; omega)) (by first | omega | (simp only; omega)) ?_
        rw [addM_snoc, hm]
        simp only [setL, q1, q2, q3, q4]
        exact (sR_NdParse [] [])
      · have q1 := o1 (by omega)
        have q2 := o2 (by omega)
        have q3 := p3 h4
        have q4 := o4 (by omega)
        ((try simp only [go_sem, hand, hshr, hmin, h4, i4 2 (by decide), setL, ek, p0]); repeat (simp (disch := omega) only [wrap_i64_of, i64_quo, i64_rem, sdiv, smod]; (try simp only [go_sem, hand, hshr, hmin, h4, i4 2 (by decide), setL, ek, p0])))
        refine rd_of (k + 1) (by first | omega | (simp only; omega)) (by first | omega | (simp only; omega)) ?_
        rw [addM_snoc, hm]
        simp only [setL, q1, q2, q3, q4]
        exact (sR_NdParse [] [])
      · have q1 := o1 (by omega)
        have q2 := o2 (by omega)
        have q3 := o3 (by omega)
        have q4 := p4 h4
        ((try simp only [go_sem, hand, hshr, hmin, h4, i4 3 (by decide), setL, ek, p0]); repeat (simp (disch := omega) only [wrap_i64_of, i64_quo, i64_rem, sdiv, smod]; (try simp only [go_sem, hand, hshr, hmin, h4, i4 3 (by decide), setL, ek, p0])))
        refine rd_of (k + 1) (by first | omega | (simp only; omega)) (by first | omega | (simp only; omega)) ?_
        rw [addM_snoc, hm]
        simp only [setL, q1, q2, q3, q4]
        exact (sR_NdParse [] [])
    · simp at h1
      have e : k = hi + 1 - lo := by omega
      subst e
      simp only [go_sem]
      refine wO_NdParse [] [] ?_
      simp only [go_sem, r_needle_set_add, exists_eq_left', Option.some.injEq]
      simp [wkV, wkL, slTrees, AV.asOwn, rowPart, stoOf, AV.isNil, shA, rowsT, cellsT, cellT]

theorem f_set_add (id n lo hi : Nat) (hn : n < 2 ^ 256) (hlo : lo < 256) (hhi : hi < 256) : Meets Tryz.prog E0 n_needle_set_add [.ptr id 0, U8 lo, U8 hi] [(id, .box (setL n))] (.tp []) [(id, .box (setL (addM n lo (hi + 1 - lo))))] := by
  have := (f_set_add0 n lo hi hn hlo hhi).ren (fun _ => id) (by simp [keysOf])
  exact this

end Go.Proofs.YtaeleljlpcjcdaaGreatDoor
namespace Go.Proofs.YtaeleljlpcjcdaaGreatDoor
open Go Go.Sx

theorem cpl_words {n : Nat} (hn : n < 2 ^ 256) (k : Nat) (hk : k < 4) : word (cplM n) k = 18446744073709551616 - 1 - word n k := by
  apply Nat.eq_of_testBit_eq
  intro i
  have hw := word_lt n k
  have e : (18446744073709551616 : Nat) - 1 - word n k = 2 ^ 64 - (word n k + 1) := by omega
  by_cases hi : i < 64
  · rw [word_bit _ _ _ hi, cpl_bit n _ hn (by omega), e, Nat.testBit_two_pow_sub_succ hw, word_bit _ _ _ hi]
    simp [hi]
  · rw [Nat.testBit_lt_two_pow (Nat.lt_of_lt_of_le (word_lt _ k) (Nat.pow_le_pow_right (by decide) (by omega))), Nat.testBit_lt_two_pow (Nat.lt_of_lt_of_le (show (18446744073709551616 : Nat) - 1 - word n k < 2 ^ 64 by omega) (Nat.pow_le_pow_right (by decide) (by omega)))]

/-- Words, the first ones of which are turned over. -/
def cwL (n : Nat) : Nat → List AV
  | 0 => [U (word n 0 : Nat), U (word n 1 : Nat), U (word n 2 : Nat), U (word n 3 : Nat)]
  | 1 => [U (18446744073709551616 - 1 - word n 0 : Nat), U (word n 1 : Nat), U (word n 2 : Nat), U (word n 3 : Nat)]
  | 2 => [U (18446744073709551616 - 1 - word n 0 : Nat), U (18446744073709551616 - 1 - word n 1 : Nat), U (word n 2 : Nat), U (word n 3 : Nat)]
  | 3 => [U (18446744073709551616 - 1 - word n 0 : Nat), U (18446744073709551616 - 1 - word n 1 : Nat), U (18446744073709551616 - 1 - word n 2 : Nat), U (word n 3 : Nat)]
  | _ => [U (18446744073709551616 - 1 - word n 0 : Nat), U (18446744073709551616 - 1 - word n 1 : Nat), U (18446744073709551616 - 1 - word n 2 : Nat), U (18446744073709551616 - 1 - word n 3 : Nat)]

theorem wO_NdClass {io : List Nat} {env : List (Nat × AV)} {sto : List (Nat × Ob)} {res : List RV} {r : AV} {e : Exit} {outs : List (Nat × Ob)} (rn : List (Nat × Nat)) (sn : List Nat) (hr : ∃ raw, (resL env sto res).map packR = some raw ∧ wkV (stoOf sto) sn (ren rn) raw r) (he : e = .ret ∨ e = .normal := by first | exact Or.inl rfl | exact Or.inr rfl)
    (hi : ∀ i ∈ r.ids, i ∈ keysOf outs := by simp [AV.ids, idsL, keysOf]) (h2 : stoS sto sn rn outs outs := by simp [stoS, wkO, ls_cons, ls_nil, stoOf, ren, keysOf, Ob.ids, wkV, wkL, AV.one, idsL, AV.ids, setL, pst, cwL] <;> assumption) (h3 : ((keysOf outs).map (ren rn)).Nodup := by simp [keysOf, ren])
    (h4 : ∀ i ∈ sn, 100 ≤ i ∧ isRow (stoOf sto i) = true ∧ ∀ j ∈ keysOf outs, ren rn j ≠ i := by simp [stoOf, keysOf, ren]) (h5 : ∀ i ∈ io, ren rn i = i := by simp [keysOf, ren]) (h6 : ∀ i ∈ keysOf outs, ren rn i ∈ io → i = ren rn i := by simp [keysOf, ren]) :
    SEnds io res r outs e ⟨envOf env, stoOf sto⟩ := wO rn sn hr he hi h2 h3 h4 h5 h6

theorem sR_NdClass {io : List Nat} {env : List (Nat × AV)} {sto : List (Nat × Ob)} {env' : List (Nat × AV)} {sto' : List (Nat × Ob)} (rn : List (Nat × Nat)) (sn : List Nat)
    (h1 : envS sto sn rn env sto' env' := by simp [envS, go_sem, wkV, wkL, AV.ids, idsL, keysOf, ren, stoOf, slTrees, AV.asOwn, rowPart, AV.isNil, shA, rowsT, cellsT, cellT, wkLL, setL, pst, cwL] <;> assumption)
    (h2 : stoS sto sn rn sto' sto' := by simp [stoS, go_sem, wkV, wkL, wkO, AV.ids, Ob.ids, idsL, keysOf, ren, AV.one, stoOf, slTrees, AV.asOwn, rowPart, AV.isNil, shA, rowsT, cellsT, cellT, wkLL, setL, pst, cwL] <;> assumption)
    (h3 : ((keysOf sto').map (ren rn)).Nodup := by simp [keysOf, ren]) (h4 : ∀ i ∈ sn, 100 ≤ i ∧ isRow (stoOf sto i) = true ∧ ∀ j ∈ keysOf sto', ren rn j ≠ i := by simp [stoOf, keysOf, ren])
    (h5 : ∀ i ∈ io, ren rn i = i := by simp [keysOf, ren]) (h6 : ∀ i ∈ keysOf sto', ren rn i ∈ io → i = ren rn i := by simp [keysOf, ren]) :
    Sub io ⟨envOf env, stoOf sto⟩ ⟨envOf env', stoOf sto'⟩ := subL rn sn h1 h2 h3 h4 h5 h6

theorem setL_word (n : Nat) : setL n = [U (word n 0 : Nat), U (word n 1 : Nat), U (word n 2 : Nat), U (word n 3 : Nat)] := by
  show [U ((n % 18446744073709551616 : Nat) : Int), U ((n / 18446744073709551616 % 18446744073709551616 : Nat) : Int), U ((n / 340282366920938463463374607431768211456 % 18446744073709551616 : Nat) : Int), U ((n / (18446744073709551616 * 340282366920938463463374607431768211456) % 18446744073709551616 : Nat) : Int)] = _
  rw [word0 n, word1 n, word2 n, word3 n]

theorem cwL_zero (n : Nat) : cwL n 0 = setL n := (setL_word n).symm

theorem cwL_four {n : Nat} (hn : n < 2 ^ 256) : cwL n 4 = setL (cplM n) := by
  rw [setL_word]
  simp only [cwL]
  rw [cpl_words hn 0 (by decide), cpl_words hn 1 (by decide), cpl_words hn 2 (by decide), cpl_words hn 3 (by decide)]

theorem u64_not {a : Nat} (h : a < 18446744073709551616) : IntKind.u64.wrap ((BitVec.ofInt 64 (if IntKind.u64.signed = true then -1 else IntKind.u64.max) ^^^ BitVec.ofInt 64 ((a : Nat) : Int)).toNat) = ((18446744073709551616 - 1 - a : Nat) : Int) := by
  show IntKind.u64.wrap ((BitVec.ofInt 64 (18446744073709551616 - 1 : Int) ^^^ BitVec.ofInt 64 (a : Int)).toNat) = _
  rw [bv_nat, show BitVec.ofInt 64 (18446744073709551616 - 1 : Int) = BitVec.allOnes 64 from by decide, BitVec.allOnes_xor, u64_wrap_nat, BitVec.toNat_not, BitVec.toNat_ofNat]
  congr 1
  omega

theorem f_parser_class0 (s : ByteArray) (rest : List UInt8) (h : Suf s rest) (hs : s.size < 4611686018427387904) : Meets Tryz.prog E0 n_needle_parser_class [.ptr 0 0] [(0, pst s rest)] (.tp [setV (classM rest).1, Bo (classM rest).2.1]) [(0, pst s (classM rest).2.2)] := by
  have hsuf : Suf s (skipM 94 rest).2 := (skip_suf 94 rest).trans h
  unfold classM
  generalize hsk : skipM 94 rest = sk at *
  generalize hx : classX sk.2 false 0 = x
  refine m_needle_parser_class (by simp) (shut_of (by simp [idsL, AV.ids, keysOf, setL, pst, cwL]) (by simp [Ob.live, Ob.ids, keysOf, idsL, AV.ids, setL, pst, cwL])) (shut_of (by simp [idsL, AV.ids, keysOf, setL, pst, cwL]) (by simp [Ob.live, Ob.ids, keysOf, idsL, AV.ids, setL, pst, cwL])) (by simp [keysOf]) (by simp [keysOf]) ?_
  simp only [go_sem, s_needle_parser_class]
  refine oB (f_parser_skip 0 94 s rest h hs) ?_
  rw [hsk]
  simp only [go_sem]
  refine W_loop (fun i : List UInt8 × Nat × Nat => i.1.length) (fun i => Suf s i.1 ∧ i.2.1 + i.1.length ≤ s.size ∧ i.2.2 < 2 ^ 256 ∧ classX i.1 (decide (0 < i.2.1)) i.2.2 = x)
    (fun i => [(0, .ptr 0 0), (2, .ptr 100 0), (4, .ptr 102 0), (5, Bo sk.1), (6, I i.2.1)])
    (fun i => [(0, pst s i.1), (100, .box (setL 0)), (102, .box (setL i.2.2))])
    (sk.2, 0, 0) ⟨hsuf, by have := hsuf.len; simpa using this, Nat.two_pow_pos _, by simpa using hx⟩ ?_ ?_
  · exact (sR_NdClass [] [])
  · rintro ⟨l, k, n⟩ ⟨hl, hk, hn, hr⟩
    simp only at hl hk hn hr
    simp only [go_sem]
    refine oB (f_parser_next 0 s l hl hs) ?_
    cases l with
    | nil =>
      simp only [classX] at hr
      subst hr
      simp only [go_sem, nextM]
      refine wO_NdClass [] [] ?_
      simp only [go_sem, r_needle_parser_class, exists_eq_left', Option.some.injEq]
      simp [wkV, wkL, slTrees, AV.asOwn, rowPart, stoOf, AV.isNil, shA, rowsT, cellsT, cellT]
    | cons c r =>
      have hc := u8_lt c
      have hlr : Suf s r := hl.tail
      have hlen := hl.len
      simp at hlen hk
      cases h93 : decide (c.toNat = 93)
      · simp at h93
        simp only [go_sem, nextM, show decide (c.toNat = 93) = false from by simp [h93]]
        refine oB (f_parser_ranged 0 s r hlr hs) ?_
        have ek : IntKind.i64.wrap ((k : Int) + 1) = ((k + 1 : Nat) : Int) := by rw [wrap_i64_of (by omega) (by omega)]; omega
        cases hrg : rangedB r
        · have d1 : decide (c.toNat < c.toNat) = false := by simp
          rw [classX_one c r _ n h93 hrg, show n ||| 2 ^ c.toNat = addM n c.toNat 1 from rfl] at hr
          simp only [go_sem, d1]
          refine oB (f_set_add 102 n c.toNat c.toNat hn hc hc) ?_
          simp only [go_sem, ek]
          refine rd_of (r, k + 1, addM n c.toNat (c.toNat + 1 - c.toNat)) (by simp) ⟨hlr, by simp only; omega, addM_lt _ _ _ hn (by omega), by rw [Nat.add_sub_cancel_left]; simpa using hr⟩ ?_
          exact (sR_NdClass [] [])
        · obtain ⟨d, x2, r', rfl⟩ := ranged_shape hrg
          rw [classX_range c d x2 r' _ n h93 hrg] at hr
          simp at hlen hk
          obtain ⟨g1, g2, g3⟩ := suf_one hlr
          simp only [List.length_cons] at g1 g2 g3
          have e1 : IntKind.i64.wrap (((s.size - (r'.length + 1 + 1) : Nat) : Int) + 1) = ((s.size - (r'.length + 1) : Nat) : Int) := by rw [wrap_i64_of (by omega) (by omega)]; omega
          simp only [go_sem, e1]
          refine oB (f_parser_next 0 s (x2 :: r') hlr.tail hs) ?_
          have hx2 := u8_lt x2
          cases hlt : decide (x2.toNat < c.toNat)
          · rw [if_neg (by simpa using hlt)] at hr
            simp only [go_sem, nextM, hlt]
            refine oB (f_set_add 102 n c.toNat x2.toNat hn hc hx2) ?_
            simp only [go_sem, ek]
            refine rd_of (r', k + 1, addM n c.toNat (x2.toNat + 1 - c.toNat)) (by simp; omega) ⟨hlr.tail.tail, by simp only; omega, addM_lt _ _ _ hn (by omega), by simpa using hr⟩ ?_
            exact (sR_NdClass [] [])
          · rw [if_pos (by simpa using hlt)] at hr
            subst hr
            simp only [go_sem, nextM, hlt]
            refine wO_NdClass [] [] ?_
            simp only [go_sem, r_needle_parser_class, exists_eq_left', Option.some.injEq]
            simp [wkV, wkL, slTrees, AV.asOwn, rowPart, stoOf, AV.isNil, shA, rowsT, cellsT, cellT]
      · simp at h93
        rw [classX_end c r _ n h93] at hr
        subst hr
        cases hk0 : decide (k = 0)
        · simp at hk0
          simp only [go_sem, nextM, h93, show decide ((k : Int) = 0) = false from by simp [hk0], decide_true]
          have hkp : 0 < k := by omega
          cases hs1 : sk.1
          · simp only [go_sem, hs1]
            refine wO_NdClass [] [] ?_
            simp only [go_sem, r_needle_parser_class, exists_eq_left', Option.some.injEq]
            simp [wkV, wkL, slTrees, AV.asOwn, rowPart, stoOf, AV.isNil, shA, rowsT, cellsT, cellT, hkp]
          · simp only [go_sem, hs1]
            refine W_loop (fun j : Nat => 4 - j) (fun j => j ≤ 4)
              (fun j => [(0, .ptr 0 0), (2, .ptr 100 0), (4, .ptr 102 0), (36, I j)])
              (fun j => [(0, pst s r), (100, .box (setL 0)), (102, .box (cwL n j))]) 0 (by omega) ?_ ?_
            · rw [cwL_zero]
              exact (sR_NdClass [] [])
            · intro j hj
              have j4 : j = 0 ∨ j = 1 ∨ j = 2 ∨ j = 3 ∨ j = 4 := by omega
              rcases j4 with rfl | rfl | rfl | rfl | rfl
              · have hw := u64_not (word_lt n 0)
                ((try simp only [go_sem, cwL, show decide (((0 : Nat) : Int) < 4) = true from rfl, show (((0 : Nat) : Int) < ((4 : Nat) : Int)) from by decide, hw]); repeat (simp (disch := omega) only [wrap_i64_of, i64_quo, i64_rem, sdiv, smod]; (try simp only [go_sem, cwL, show decide (((0 : Nat) : Int) < 4) = true from rfl, show (((0 : Nat) : Int) < ((4 : Nat) : Int)) from by decide, hw])))
                refine rd_of 1 (by first | omega | (simp only; omega)) (by first | omega | (simp only; omega)) ?_
                exact (sR_NdClass [] [])
              · have hw := u64_not (word_lt n 1)
                ((try simp only [go_sem, cwL, show decide (((1 : Nat) : Int) < 4) = true from rfl, show (((1 : Nat) : Int) < ((4 : Nat) : Int)) from by decide, hw]); repeat (simp (disch := omega) only [wrap_i64_of, i64_quo, i64_rem, sdiv, smod]; (try simp only [go_sem, cwL, show decide (((1 : Nat) : Int) < 4) = true from rfl, show (((1 : Nat) : Int) < ((4 : Nat) : Int)) from by decide, hw])))
                refine rd_of 2 (by first | omega | (simp only; omega)) (by first | omega | (simp only; omega)) ?_
                exact (sR_NdClass [] [])
              · have hw := u64_not (word_lt n 2)
                ((try simp only [go_sem, cwL, show decide (((2 : Nat) : Int) < 4) = true from rfl, show (((2 : Nat) : Int) < ((4 : Nat) : Int)) from by decide, hw]); repeat (simp (disch := omega) only [wrap_i64_of, i64_quo, i64_rem, sdiv, smod]; (try simp only [go_sem, cwL, show decide (((2 : Nat) : Int) < 4) = true from rfl, show (((2 : Nat) : Int) < ((4 : Nat) : Int)) from by decide, hw])))
                refine rd_of 3 (by first | omega | (simp only; omega)) (by first | omega | (simp only; omega)) ?_
                exact (sR_NdClass [] [])
              · have hw := u64_not (word_lt n 3)
                ((try simp only [go_sem, cwL, show decide (((3 : Nat) : Int) < 4) = true from rfl, show (((3 : Nat) : Int) < ((4 : Nat) : Int)) from by decide, hw]); repeat (simp (disch := omega) only [wrap_i64_of, i64_quo, i64_rem, sdiv, smod]; (try simp only [go_sem, cwL, show decide (((3 : Nat) : Int) < 4) = true from rfl, show (((3 : Nat) : Int) < ((4 : Nat) : Int)) from by decide, hw])))
                refine rd_of 4 (by first | omega | (simp only; omega)) (by first | omega | (simp only; omega)) ?_
                exact (sR_NdClass [] [])
              · simp only [go_sem, show decide (((4 : Nat) : Int) < 4) = false from rfl]
                rw [cwL_four hn]
                simp only [go_sem]
                refine wO_NdClass [] [] ?_
                simp only [go_sem, r_needle_parser_class, exists_eq_left', Option.some.injEq]
                simp [wkV, wkL, slTrees, AV.asOwn, rowPart, stoOf, AV.isNil, shA, rowsT, cellsT, cellT, hkp]
        · simp at hk0
          subst hk0
          simp only [go_sem, nextM, h93, decide_true, show decide (((0 : Nat) : Int) = 0) = true from rfl]
          refine wO_NdClass [] [] ?_
          simp only [go_sem, r_needle_parser_class, exists_eq_left', Option.some.injEq]
          simp [wkV, wkL, slTrees, AV.asOwn, rowPart, stoOf, AV.isNil, shA, rowsT, cellsT, cellT]

end Go.Proofs.YtaeleljlpcjcdaaGreatDoor
namespace Go.Proofs.YtaeleljlpcjcdaaGreatDoor
open Go Go.Sx

theorem wO_NdComp {io : List Nat} {env : List (Nat × AV)} {sto : List (Nat × Ob)} {res : List RV} {r : AV} {e : Exit} {outs : List (Nat × Ob)} (rn : List (Nat × Nat)) (sn : List Nat) (hr : ∃ raw, (resL env sto res).map packR = some raw ∧ wkV (stoOf sto) sn (ren rn) raw r) (he : e = .ret ∨ e = .normal := by first | exact Or.inl rfl | exact Or.inr rfl)
    (hi : ∀ i ∈ r.ids, i ∈ keysOf outs := by simp [AV.ids, idsL, keysOf]) (h2 : stoS sto sn rn outs outs := by simp [stoS, wkO, ls_cons, ls_nil, stoOf, ren, keysOf, Ob.ids, wkV, wkL, AV.one, idsL, AV.ids, setL, pst] <;> assumption) (h3 : ((keysOf outs).map (ren rn)).Nodup := by simp [keysOf, ren])
    (h4 : ∀ i ∈ sn, 100 ≤ i ∧ isRow (stoOf sto i) = true ∧ ∀ j ∈ keysOf outs, ren rn j ≠ i := by simp [stoOf, keysOf, ren]) (h5 : ∀ i ∈ io, ren rn i = i := by simp [keysOf, ren]) (h6 : ∀ i ∈ keysOf outs, ren rn i ∈ io → i = ren rn i := by simp [keysOf, ren]) :
    SEnds io res r outs e ⟨envOf env, stoOf sto⟩ := wO rn sn hr he hi h2 h3 h4 h5 h6

theorem sR_NdComp {io : List Nat} {env : List (Nat × AV)} {sto : List (Nat × Ob)} {env' : List (Nat × AV)} {sto' : List (Nat × Ob)} (rn : List (Nat × Nat)) (sn : List Nat)
    (h1 : envS sto sn rn env sto' env' := by simp [envS, go_sem, wkV, wkL, AV.ids, idsL, keysOf, ren, stoOf, slTrees, AV.asOwn, rowPart, AV.isNil, shA, rowsT, cellsT, cellT, wkLL, setL, pst] <;> assumption)
    (h2 : stoS sto sn rn sto' sto' := by simp [stoS, go_sem, wkV, wkL, wkO, AV.ids, Ob.ids, idsL, keysOf, ren, AV.one, stoOf, slTrees, AV.asOwn, rowPart, AV.isNil, shA, rowsT, cellsT, cellT, wkLL, setL, pst] <;> assumption)
    (h3 : ((keysOf sto').map (ren rn)).Nodup := by simp [keysOf, ren]) (h4 : ∀ i ∈ sn, 100 ≤ i ∧ isRow (stoOf sto i) = true ∧ ∀ j ∈ keysOf sto', ren rn j ≠ i := by simp [stoOf, keysOf, ren])
    (h5 : ∀ i ∈ io, ren rn i = i := by simp [keysOf, ren]) (h6 : ∀ i ∈ keysOf sto', ren rn i ∈ io → i = ren rn i := by simp [keysOf, ren]) :
    Sub io ⟨envOf env, stoOf sto⟩ ⟨envOf env', stoOf sto'⟩ := subL rn sn h1 h2 h3 h4 h5 h6

theorem f_parser_class (id : Nat) (s : ByteArray) (rest : List UInt8) (h : Suf s rest) (hs : s.size < 4611686018427387904) : Meets Tryz.prog E0 n_needle_parser_class [.ptr id 0] [(id, pst s rest)] (.tp [setV (classM rest).1, Bo (classM rest).2.1]) [(id, pst s (classM rest).2.2)] := by
  have := (f_parser_class0 s rest h hs).ren (fun _ => id) (by simp [keysOf])
  exact this

theorem f_parser_atom0 (s : ByteArray) (c : UInt8) (r : List UInt8) (h : Suf s (c :: r)) (hs : s.size < 4611686018427387904) : Meets Tryz.prog E0 n_needle_parser_atom [.ptr 0 0] [(0, pst s (c :: r))] (.tp [setV (atomM (c :: r)).1, Bo (atomM (c :: r)).2.1]) [(0, pst s (atomM (c :: r)).2.2)] := by
  have hc := u8_lt c
  refine m_needle_parser_atom (by simp) (shut_of (by simp [idsL, AV.ids, keysOf, setL, pst]) (by simp [Ob.live, Ob.ids, keysOf, idsL, AV.ids, setL, pst])) (shut_of (by simp [idsL, AV.ids, keysOf, setL, pst]) (by simp [Ob.live, Ob.ids, keysOf, idsL, AV.ids, setL, pst])) (by simp [keysOf]) (by simp [keysOf]) ?_
  simp only [go_sem, s_needle_parser_atom]
  refine oB (f_parser_next 0 s (c :: r) h hs) ?_
  by_cases hb : c.toNat = 94 ∨ c.toNat = 36 ∨ c.toNat = 42 ∨ c.toNat = 93
  · rw [show atomM (c :: r) = (0, false, r) from by simp only [atomM, if_pos hb]]
    rcases hb with hb | hb | hb | hb
    all_goals
      simp only [go_sem, nextM, hb]
      refine wO_NdComp [] [] ?_
      simp only [go_sem, r_needle_parser_atom, exists_eq_left', Option.some.injEq]
      simp [wkV, wkL, slTrees, AV.asOwn, rowPart, stoOf, AV.isNil, shA, rowsT, cellsT, cellT]
  · have b1 : decide (c.toNat = 94) = false := by simp; omega
    have b2 : decide (c.toNat = 36) = false := by simp; omega
    have b3 : decide (c.toNat = 42) = false := by simp; omega
    have b4 : decide (c.toNat = 93) = false := by simp; omega
    by_cases h46 : c.toNat = 46
    · rw [show atomM (c :: r) = (full, true, r) from by simp only [atomM, if_neg hb, if_pos h46]]
      simp only [go_sem, nextM, b1, b2, b3, b4, h46]
      refine oB (f_set_add 102 0 0 255 (Nat.two_pow_pos _) (by decide) (by decide)) ?_
      rw [show 255 + 1 - 0 = 256 from rfl, full_add]
      simp only [go_sem]
      refine wO_NdComp [] [] ?_
      simp only [go_sem, r_needle_parser_atom, exists_eq_left', Option.some.injEq]
      simp [wkV, wkL, slTrees, AV.asOwn, rowPart, stoOf, AV.isNil, shA, rowsT, cellsT, cellT]
    have b5 : decide (c.toNat = 46) = false := by simp; omega
    by_cases h91 : c.toNat = 91
    · rw [show atomM (c :: r) = classM r from by simp only [atomM, if_neg hb, if_neg h46, if_pos h91]]
      simp only [go_sem, nextM, b1, b2, b3, b4, b5, h91]
      refine oB (f_parser_class 0 s r h.tail hs) ?_
      simp only [go_sem]
      refine wO_NdComp [] [] ?_
      simp only [go_sem, r_needle_parser_atom, exists_eq_left', Option.some.injEq]
      simp [wkV, wkL, slTrees, AV.asOwn, rowPart, stoOf, AV.isNil, shA, rowsT, cellsT, cellT]
    have b6 : decide (c.toNat = 91) = false := by simp; omega
    by_cases h92 : c.toNat = 92
    · simp only [go_sem, nextM, b1, b2, b3, b4, b5, b6, h92]
      refine oB (f_parser_next 0 s r h.tail hs) ?_
      cases r with
      | nil =>
        rw [show atomM [c] = (1, false, []) from by simp only [atomM, if_neg hb, if_neg h46, if_neg h91, if_pos h92]]
        simp only [go_sem, nextM]
        refine oB (f_set_add 102 0 0 0 (Nat.two_pow_pos _) (by decide) (by decide)) ?_
        rw [show addM 0 0 (0 + 1 - 0) = 1 from rfl]
        simp only [go_sem]
        refine wO_NdComp [] [] ?_
        simp only [go_sem, r_needle_parser_atom, exists_eq_left', Option.some.injEq]
        simp [wkV, wkL, slTrees, AV.asOwn, rowPart, stoOf, AV.isNil, shA, rowsT, cellsT, cellT]
      | cons d r =>
        have hd := u8_lt d
        rw [show atomM (c :: d :: r) = (2 ^ d.toNat, true, r) from by simp only [atomM, if_neg hb, if_neg h46, if_neg h91, if_pos h92]]
        simp only [go_sem, nextM]
        refine oB (f_set_add 102 0 d.toNat d.toNat (Nat.two_pow_pos _) hd hd) ?_
        rw [Nat.add_sub_cancel_left, one_add]
        simp only [go_sem]
        refine wO_NdComp [] [] ?_
        simp only [go_sem, r_needle_parser_atom, exists_eq_left', Option.some.injEq]
        simp [wkV, wkL, slTrees, AV.asOwn, rowPart, stoOf, AV.isNil, shA, rowsT, cellsT, cellT]
    have b7 : decide (c.toNat = 92) = false := by simp; omega
    rw [show atomM (c :: r) = (2 ^ c.toNat, true, r) from by simp only [atomM, if_neg hb, if_neg h46, if_neg h91, if_neg h92]]
    simp only [go_sem, nextM, b1, b2, b3, b4, b5, b6, b7]
    refine oB (f_set_add 102 0 c.toNat c.toNat (Nat.two_pow_pos _) hc hc) ?_
    rw [Nat.add_sub_cancel_left, one_add]
    simp only [go_sem]
    refine wO_NdComp [] [] ?_
    simp only [go_sem, r_needle_parser_atom, exists_eq_left', Option.some.injEq]
    simp [wkV, wkL, slTrees, AV.asOwn, rowPart, stoOf, AV.isNil, shA, rowsT, cellsT, cellT]

theorem f_parser_atom (id : Nat) (s : ByteArray) (c : UInt8) (r : List UInt8) (h : Suf s (c :: r)) (hs : s.size < 4611686018427387904) : Meets Tryz.prog E0 n_needle_parser_atom [.ptr id 0] [(id, pst s (c :: r))] (.tp [setV (atomM (c :: r)).1, Bo (atomM (c :: r)).2.1]) [(id, pst s (atomM (c :: r)).2.2)] := by
  have := (f_parser_atom0 s c r h hs).ren (fun _ => id) (by simp [keysOf])
  exact this

theorem f_needle_Compile (s : ByteArray) (hs : s.size < 4611686018427387904) : Meets Tryz.prog E0 n_needle_Compile [.t (.v (.string s))] [] (.tp [needleV (compM s.data.toList).1.1 (compM s.data.toList).1.2.1 (compM s.data.toList).1.2.2, I (compM s.data.toList).2]) [] := by
  refine st0 m_needle_Compile ?_
  simp only [go_sem, s_needle_Compile]
  refine W_split rfl (fun h1 => ?_) (fun h1 => ?_)
  · simp at h1
    have hc : compM s.data.toList = ((false, false, []), 12) := by unfold compM; rw [if_pos (by rw [ba_len]; omega)]
    rw [hc]
    simp only [go_sem]
    refine wS [] ?_
    simp only [go_sem, r_needle_Compile, exists_eq_left', Option.some.injEq]
    simp [wkV, wkL, slTrees, AV.asOwn, rowPart, stoOf, AV.isNil, shA, rowsT, cellsT, cellT]
  · simp at h1
    have hall := Suf.all s
    have hc : compM s.data.toList = (match itemsM (s.size + 1) (skipM 94 s.data.toList).2 [] with
      | none => ((false, false, []), 10)
      | some (e, is) => (((skipM 94 s.data.toList).1, e, is), 0)) := by unfold compM; rw [ba_len, if_neg (by omega)] <;> rfl
    have hsuf : Suf s (skipM 94 s.data.toList).2 := (skip_suf 94 _).trans hall
    rw [hc]
    simp only [go_sem]
    refine Cl_obj (f_parser_skip 110 94 s _ hall hs) (by simp [keysOf, stoOf, ba_len]) (by simp [keysOf]) (by simp [keysOf]) ?_
    generalize hsk : skipM 94 s.data.toList = sk at *
    generalize hout : itemsM (s.size + 1) sk.2 [] = out
    simp only [go_sem]
    refine W_loop (fun i : List UInt8 × List Item => i.1.length) (fun i => Suf s i.1 ∧ i.2.length + i.1.length ≤ 64 ∧ ∃ f, i.1.length < f ∧ itemsM f i.1 i.2 = out)
      (fun i => [(0, .t (.v (.string s))), (2, .ptr 100 0), (4, .ptr 110 0), (5, .ptr 115 0)])
      (fun i => [(100, .box [Bo false, Bo false, .t (.v (.slice none 0 0))]), (110, pst s i.1), (115, .box [Bo sk.1, Bo false, .own 999 5 0 i.2.length (!i.2.isEmpty)]), (999, .row 5 (!i.2.isEmpty) (i.2.map itemT))])
      (sk.2, []) ⟨hsuf, by have := hsuf.len; simp; omega, s.size + 1, by have := hsuf.len; simp; omega, hout⟩ ?_ ?_
    · exact (sR_NdComp [] [])
    · rintro ⟨l, acc⟩ ⟨hl, hk, f, hf, hr⟩
      simp only at hl hk hf hr
      simp only [go_sem]
      refine oB (f_parser_more 110 s l hl) ?_
      obtain ⟨f, rfl⟩ : ∃ g, f = g + 1 := ⟨f - 1, by omega⟩
      cases l with
      | nil =>
        simp only [itemsM] at hr
        subst hr
        simp only [go_sem, List.isEmpty_nil]
        cases hacc : acc with
        | nil =>
          refine wS [] ?_
          simp only [go_sem, r_needle_Compile, exists_eq_left', Option.some.injEq]
          simp [wkV, wkL, slTrees, AV.asOwn, rowPart, stoOf, AV.isNil, shA, rowsT, cellsT, cellT]
        | cons a acc =>
          refine wS [999] ?_
          simp only [go_sem, r_needle_Compile, exists_eq_left', Option.some.injEq]
          simp [wkV, wkL, slTrees, AV.asOwn, rowPart, stoOf, AV.isNil, shA, rowsT, cellsT, cellT, List.take_of_length_le]
      | cons c r =>
        have hlen := hl.len
        simp only [List.length_cons] at hlen hk hf
        by_cases hd : r = [] ∧ c.toNat = 36
        · obtain ⟨rfl, hc36⟩ := hd
          simp only [itemsM, hc36, and_self, if_true] at hr
          subst hr
          simp only [List.length_nil] at hlen
          have e1 : IntKind.i64.wrap ((s.size : Int) - 1) = ((s.size - 1 : Nat) : Int) := by rw [wrap_i64_of (by omega) (by omega)]; omega
          simp only [go_sem, e1, decide_true]
          refine oB (f_parser_skip 110 36 s [c] hl hs) ?_
          simp only [go_sem, skipM, hc36]
          cases hacc : acc with
          | nil =>
            refine wS [] ?_
            simp only [go_sem, r_needle_Compile, exists_eq_left', Option.some.injEq]
            simp [wkV, wkL, slTrees, AV.asOwn, rowPart, stoOf, AV.isNil, shA, rowsT, cellsT, cellT]
          | cons a acc =>
            refine wS [999] ?_
            simp only [go_sem, r_needle_Compile, exists_eq_left', Option.some.injEq]
            simp [wkV, wkL, slTrees, AV.asOwn, rowPart, stoOf, AV.isNil, shA, rowsT, cellsT, cellT, List.take_of_length_le]
        · simp only [itemsM, if_neg hd] at hr
          obtain hr0 | hr0 : r.length = 0 ∨ 0 < r.length := by omega
          · have e1 : IntKind.i64.wrap ((s.size : Int) - 1) = ((s.size - (r.length + 1) : Nat) : Int) := by rw [wrap_i64_of (by omega) (by omega)]; omega
            have hn36 : ¬ c.toNat = 36 := fun h => hd ⟨List.eq_nil_of_length_eq_zero hr0, h⟩
            simp only [go_sem, e1, decide_true]
            refine oB (f_parser_skip 110 36 s (c :: r) hl hs) ?_
            rw [show skipM 36 (c :: r) = (false, c :: r) from by simp [skipM, hn36]]
            simp only [go_sem]
            refine oB (f_parser_atom 110 s c r hl hs) ?_
            have hat := atomM_suf c r
            have hal := atomM_lt (c :: r)
            generalize atomM (c :: r) = x at *
            obtain ⟨n, ok, r1⟩ := x
            cases ok with
            | false =>
              simp only [Bool.false_eq_true, if_false] at hr
              subst hr
              simp only [go_sem]
              refine wS [] ?_
              simp only [go_sem, r_needle_Compile, exists_eq_left', Option.some.injEq]
              simp [wkV, wkL, slTrees, AV.asOwn, rowPart, stoOf, AV.isNil, shA, rowsT, cellsT, cellT]
            | true =>
              simp only [if_true] at hr hat hal
              have hs1 : Suf s r1 := hat.trans hl.tail
              have hle := hat.length_le
              have hsf := (skip_suf 42 r1).length_le
              simp only [go_sem]
              refine oB (f_parser_skip 110 42 s r1 hs1 hs) ?_
              have b1 : (acc.length + 1) * 40 ≤ 2 ^ 47 := by omega
              have b2 : acc.length + 1 < 2 ^ 47 := by omega
              have e2 : acc.map itemT ++ [itemT (n, (skipM 42 r1).1)] = (acc ++ [(n, (skipM 42 r1).1)]).map itemT := by simp
              simp only [itemT] at e2
              simp only [go_sem, b1, b2]
              refine R_fin ?_ ?_
              · repeat' (first | exact okp0 | refine okp rfl rfl rfl ?_)
              simp only [go_sem, e2]
              refine rd_of ((skipM 42 r1).2, acc ++ [(n, (skipM 42 r1).1)]) (by simp; omega) ⟨(skip_suf 42 r1).trans hs1, by simp; omega, f, by simp; omega, hr⟩ ?_
              exact (sR_NdComp [(999, 153)] [])
          · have e1 : IntKind.i64.wrap ((s.size : Int) - 1) = ((s.size - 1 : Nat) : Int) := by rw [wrap_i64_of (by omega) (by omega)]; omega
            have d1 : decide (s.size - (r.length + 1) = s.size - 1) = false := by simp; omega
            simp only [go_sem, e1, d1]
            refine oB (f_parser_atom 110 s c r hl hs) ?_
            have hat := atomM_suf c r
            have hal := atomM_lt (c :: r)
            generalize atomM (c :: r) = x at *
            obtain ⟨n, ok, r1⟩ := x
            cases ok with
            | false =>
              simp only [Bool.false_eq_true, if_false] at hr
              subst hr
              simp only [go_sem]
              refine wS [] ?_
              simp only [go_sem, r_needle_Compile, exists_eq_left', Option.some.injEq]
              simp [wkV, wkL, slTrees, AV.asOwn, rowPart, stoOf, AV.isNil, shA, rowsT, cellsT, cellT]
            | true =>
              simp only [if_true] at hr hat hal
              have hs1 : Suf s r1 := hat.trans hl.tail
              have hle := hat.length_le
              have hsf := (skip_suf 42 r1).length_le
              simp only [go_sem]
              refine oB (f_parser_skip 110 42 s r1 hs1 hs) ?_
              have b1 : (acc.length + 1) * 40 ≤ 2 ^ 47 := by omega
              have b2 : acc.length + 1 < 2 ^ 47 := by omega
              have e2 : acc.map itemT ++ [itemT (n, (skipM 42 r1).1)] = (acc ++ [(n, (skipM 42 r1).1)]).map itemT := by simp
              simp only [itemT] at e2
              simp only [go_sem, b1, b2]
              refine R_fin ?_ ?_
              · repeat' (first | exact okp0 | refine okp rfl rfl rfl ?_)
              simp only [go_sem, e2]
              refine rd_of ((skipM 42 r1).2, acc ++ [(n, (skipM 42 r1).1)]) (by simp; omega) ⟨(skip_suf 42 r1).trans hs1, by simp; omega, f, by simp; omega, hr⟩ ?_
              exact (sR_NdComp [(999, 153)] [])

end Go.Proofs.YtaeleljlpcjcdaaGreatDoor
namespace Go.Proofs.YtaeleljlpcjcdaaGreatDoor
open Go Go.Sx

theorem wO_NdFind {io : List Nat} {env : List (Nat × AV)} {sto : List (Nat × Ob)} {res : List RV} {r : AV} {e : Exit} {outs : List (Nat × Ob)} (rn : List (Nat × Nat)) (sn : List Nat) (hr : ∃ raw, (resL env sto res).map packR = some raw ∧ wkV (stoOf sto) sn (ren rn) raw r) (he : e = .ret ∨ e = .normal := by first | exact Or.inl rfl | exact Or.inr rfl)
    (hi : ∀ i ∈ r.ids, i ∈ keysOf outs := by simp [AV.ids, idsL, keysOf]) (h2 : stoS sto sn rn outs outs := by simp [stoS, wkO, ls_cons, ls_nil, stoOf, ren, keysOf, Ob.ids, wkV, wkL, AV.one, idsL, AV.ids, setL, pst] <;> assumption) (h3 : ((keysOf outs).map (ren rn)).Nodup := by simp [keysOf, ren])
    (h4 : ∀ i ∈ sn, 100 ≤ i ∧ isRow (stoOf sto i) = true ∧ ∀ j ∈ keysOf outs, ren rn j ≠ i := by simp [stoOf, keysOf, ren]) (h5 : ∀ i ∈ io, ren rn i = i := by simp [keysOf, ren]) (h6 : ∀ i ∈ keysOf outs, ren rn i ∈ io → i = ren rn i := by simp [keysOf, ren]) :
    SEnds io res r outs e ⟨envOf env, stoOf sto⟩ := wO rn sn hr he hi h2 h3 h4 h5 h6

theorem sR_NdFind {io : List Nat} {env : List (Nat × AV)} {sto : List (Nat × Ob)} {env' : List (Nat × AV)} {sto' : List (Nat × Ob)} (rn : List (Nat × Nat)) (sn : List Nat)
    (h1 : envS sto sn rn env sto' env' := by simp [envS, go_sem, wkV, wkL, AV.ids, idsL, keysOf, ren, stoOf, slTrees, AV.asOwn, rowPart, AV.isNil, shA, rowsT, cellsT, cellT, wkLL, setL, pst] <;> assumption)
    (h2 : stoS sto sn rn sto' sto' := by simp [stoS, go_sem, wkV, wkL, wkO, AV.ids, Ob.ids, idsL, keysOf, ren, AV.one, stoOf, slTrees, AV.asOwn, rowPart, AV.isNil, shA, rowsT, cellsT, cellT, wkLL, setL, pst] <;> assumption)
    (h3 : ((keysOf sto').map (ren rn)).Nodup := by simp [keysOf, ren]) (h4 : ∀ i ∈ sn, 100 ≤ i ∧ isRow (stoOf sto i) = true ∧ ∀ j ∈ keysOf sto', ren rn j ≠ i := by simp [stoOf, keysOf, ren])
    (h5 : ∀ i ∈ io, ren rn i = i := by simp [keysOf, ren]) (h6 : ∀ i ∈ keysOf sto', ren rn i ∈ io → i = ren rn i := by simp [keysOf, ren]) :
    Sub io ⟨envOf env, stoOf sto⟩ ⟨envOf env', stoOf sto'⟩ := subL rn sn h1 h2 h3 h4 h5 h6

theorem take_map_len' (l : List Bool) (n : Nat) (h : l.length = n) : (l.map bT).take n = l.map bT := by rw [List.take_of_length_le]; simp [h]

theorem getD_map (l : List Bool) (i : Nat) (h : i < l.length) : (l.map bT)[i]? = some (bT (l.getD i false)) := by
  rw [List.getElem?_map, List.getD_eq_getElem?_getD, List.getElem?_eq_getElem h]; rfl

theorem item_get {is : List Item} {i : Nat} {x : Item} (h : is[i]? = some x) : starAt is i = x.2 ∧ ∀ b, fitAt is i b = x.1.testBit b := by
  simp [starAt, fitAt, h]

theorem f_states_reach0 (is : List Item) (hn : is.length ≤ 100000) : ∀ (s : List Bool) (i : Nat), s.length = is.length + 1 → i ≤ is.length →
    Meets Tryz.prog E0 n_needle_states_reach [.own 0 1 0 (is.length + 1) true, itemsV is, I i] [(0, .row 1 true (s.map bT))] (.tp []) [(0, .row 1 true ((reachM is (is.length + 1) i s).map bT))] := by
  intro s i hs hi
  generalize hout : reachM is (is.length + 1) i s = out
  refine m_needle_states_reach (by simp) (shut_of (by simp [idsL, AV.ids, keysOf, setL, pst]) (by simp [Ob.live, Ob.ids, keysOf, idsL, AV.ids, setL, pst])) (shut_of (by simp [idsL, AV.ids, keysOf, setL, pst]) (by simp [Ob.live, Ob.ids, keysOf, idsL, AV.ids, setL, pst])) (by simp [keysOf]) (by simp [keysOf]) ?_
  simp only [go_sem, s_needle_states_reach]
  refine W_loop (fun x : Nat × List Bool => is.length + 1 - x.1) (fun x => x.1 ≤ is.length ∧ x.2.length = is.length + 1 ∧ ∃ f, is.length < x.1 + f ∧ reachM is f x.1 x.2 = out)
    (fun x => [(0, .own 0 1 0 (is.length + 1) true), (1, itemsV is), (2, I x.1)])
    (fun x => [(0, .row 1 true (x.2.map bT))])
    (i, s) ⟨hi, hs, is.length + 1, by simp only; omega, hout⟩ ?_ ?_
  · exact (sR_NdFind [] [])
  · rintro ⟨i, s⟩ ⟨hi, hs, f, hf, hr⟩
    simp only at hi hs hf hr
    have hg := getD_map s i (by omega)
    have q1 : (i : Int) < ((is.length + 1 : Nat) : Int) := by omega
    obtain ⟨f, rfl⟩ : ∃ g, f = g + 1 := ⟨f - 1, by omega⟩
    simp only [reachM] at hr
    cases hsi : s.getD i false
    · simp only [hsi, Bool.false_eq_true, if_false] at hr
      have e0 : (s.map bT).set i (bT true) = (s.set i true).map bT := by simp
      simp only [go_sem, q1, hg, hsi, e0]
      obtain hin | hin : i = is.length ∨ i < is.length := by omega
      · subst hin
        have hst : starAt is is.length = false := by simp [starAt]
        simp only [hst, Bool.false_eq_true, if_false] at hr
        subst hr
        simp only [go_sem, decide_true]
        refine wO_NdFind [] [] ?_
        simp only [go_sem, r_needle_states_reach, exists_eq_left', Option.some.injEq]
        simp [wkV, wkL, slTrees, AV.asOwn, rowPart, stoOf, AV.isNil, shA, rowsT, cellsT, cellT]
      · obtain ⟨x, hx⟩ := get_of_lt hin
        obtain ⟨h1, h2⟩ := item_get hx
        have d1 : decide (i = is.length) = false := by simp; omega
        have ei : IntKind.i64.wrap ((i : Int) + 1) = ((i + 1 : Nat) : Int) := by rw [wrap_i64_of (by omega) (by omega)]; omega
        rw [h1] at hr
        cases hx2 : x.2
        · simp only [hx2, Bool.false_eq_true, if_false] at hr
          subst hr
          simp only [go_sem, d1, hx, itemT, hx2]
          refine wO_NdFind [] [] ?_
          simp only [go_sem, r_needle_states_reach, exists_eq_left', Option.some.injEq]
          simp [wkV, wkL, slTrees, AV.asOwn, rowPart, stoOf, AV.isNil, shA, rowsT, cellsT, cellT]
        · simp only [hx2, if_true] at hr
          simp only [go_sem, d1, hx, itemT, hx2, ei]
          refine rd_of (i + 1, s.set i true) (by simp; omega) ⟨by simp; omega, by simpa using hs, f, by simp; omega, hr⟩ ?_
          exact (sR_NdFind [] [])
    · simp only [hsi, if_true] at hr
      subst hr
      simp only [go_sem, q1, hg, hsi]
      refine wO_NdFind [] [] ?_
      simp only [go_sem, r_needle_states_reach, exists_eq_left', Option.some.injEq]
      simp [wkV, wkL, slTrees, AV.asOwn, rowPart, stoOf, AV.isNil, shA, rowsT, cellsT, cellT]

theorem f_states_reach (id : Nat) (is : List Item) (hn : is.length ≤ 100000) (s : List Bool) (i : Nat) (hs : s.length = is.length + 1) (hi : i ≤ is.length) :
    Meets Tryz.prog E0 n_needle_states_reach [.own id 1 0 (is.length + 1) true, itemsV is, I i] [(id, .row 1 true (s.map bT))] (.tp []) [(id, .row 1 true ((reachM is (is.length + 1) i s).map bT))] := by
  have := (f_states_reach0 is hn s i hs hi).ren (fun _ => id) (by simp [keysOf])
  exact this

theorem word_get (n b : Nat) (hb : b < 256) : (word n (b / 64)).testBit (b % 64) = n.testBit b := by
  rw [word_bit _ _ _ (by omega), show 64 * (b / 64) + b % 64 = b by omega]

theorem and_bit (w k : Nat) : (w &&& 2 ^ k == 0) = !w.testBit k := by
  have h : (w &&& 2 ^ k = 0) ↔ w.testBit k = false := by
    constructor
    · intro h
      have := congrArg (fun x => x.testBit k) h
      simpa [Nat.testBit_and, Nat.testBit_two_pow] using this
    · intro h
      apply Nat.eq_of_testBit_eq
      intro i
      rw [Nat.testBit_and, Nat.testBit_two_pow, Nat.zero_testBit]
      by_cases hi : k = i
      · subst hi; simp [h]
      · simp [hi]
  rw [Bool.eq_iff_iff]; simp [h]

theorem f_needle_Fits (n b : Nat) (st : Bool) (hb : b < 256) : Meets Tryz.prog E0 n_needle_Fits [itemV (n, st), U8 b] [] (Bo (n.testBit b)) [] := by
  refine st0 m_needle_Fits ?_
  have h6 : b / 2 ^ (min 6 8) = b / 64 := rfl
  have hw : ∀ j, word n j % 18446744073709551616 = word n j := fun j => Nat.mod_eq_of_lt (word_lt n j)
  have hab : ∀ w k : Nat, decide (w &&& 2 ^ k = 0) = !w.testBit k := fun w k => and_bit w k
  have h63 : b % 256 &&& 63 % 256 = b % 64 := by
    rw [Nat.mod_eq_of_lt hb]; exact Nat.and_two_pow_sub_one_eq_mod b 6
  have hmin : min (b % 64) 64 = b % 64 := Nat.min_eq_left (by omega)
  have p0 : 2 ^ (b % 64) % 18446744073709551616 = 2 ^ (b % 64) := Nat.mod_eq_of_lt (Nat.pow_lt_pow_right (n := 64) (by decide) (by omega))
  have h4 : b / 64 = 0 ∨ b / 64 = 1 ∨ b / 64 = 2 ∨ b / 64 = 3 := by omega
  have i4 : ∀ j : Nat, j < 4 → (j : Int) < ((4 : Nat) : Int) := by omega
  have hg := word_get n b hb
  rcases h4 with h4 | h4 | h4 | h4
  all_goals
    rw [h4] at hg
    simp only [go_sem, s_needle_Fits, h6, h63, h4, i4 0 (by decide), i4 1 (by decide), i4 2 (by decide), i4 3 (by decide), setL, hmin, p0]
    refine wE ?_
    simp only [go_sem, r_needle_Fits]
    first | rw [word0 n] | rw [word1 n] | rw [word2 n] | rw [word3 n]
    rw [← hg, hw, hab, Bool.not_not]

theorem f_ref09_Fits (n b : Nat) (st : Bool) (hb : b < 256) : Meets Tryz.prog E0 n_ref09_Fits [itemV (n, st), U8 b] [] (Bo (n.testBit b)) [] := by
  refine st0 m_ref09_Fits ?_
  have hd : b / 64 % 256 = b / 64 := by omega
  have hmin : min (b % 64) 64 = b % 64 := Nat.min_eq_left (by omega)
  have h4 : b / 64 = 0 ∨ b / 64 = 1 ∨ b / 64 = 2 ∨ b / 64 = 3 := by omega
  have i4 : ∀ j : Nat, j < 4 → (j : Int) < ((4 : Nat) : Int) := by omega
  have hg := word_get n b hb
  have h64 : ¬ (64 : Nat) = 0 := by decide
  rcases h4 with h4 | h4 | h4 | h4
  all_goals
    rw [h4] at hg
    simp only [go_sem, s_ref09_Fits, hd, Nat.zero_mod, h4, i4 0 (by decide), i4 1 (by decide), i4 2 (by decide), i4 3 (by decide), setL, hmin, u8_quo h64, u8_rem h64]
    refine wE ?_
    simp only [go_sem, r_ref09_Fits]
    first | rw [word0 n] | rw [word1 n] | rw [word2 n] | rw [word3 n]
    rw [← hg, Nat.testBit_eq_decide_div_mod_eq, show (1 : Nat) % 18446744073709551616 = 1 from rfl, Nat.and_one_is_mod]
    simp

theorem f_states_step (id : Nat) (is : List Item) (hn : is.length ≤ 100000) (s : List Bool) (hs : s.length = is.length + 1) (b : Nat) (hb : b < 256) :
    Meets Tryz.prog E0 n_needle_states_step [boolsV s, itemsV is, U8 b] [] (.own id 1 0 (is.length + 1) true) [(id, .row 1 true ((stepM is s b).map bT))] := by
  have h0 : Meets Tryz.prog E0 n_needle_states_step [boolsV s, itemsV is, U8 b] [] (.own 0 1 0 (is.length + 1) true) [(0, .row 1 true ((stepM is s b).map bT))] := by
    unfold stepM
    refine m_needle_states_step (by simp) (shut_of (by simp [idsL, AV.ids, keysOf, setL, pst]) (by simp [Ob.live, Ob.ids, keysOf, idsL, AV.ids, setL, pst])) (shut_of (by simp [idsL, AV.ids, keysOf, setL, pst]) (by simp [Ob.live, Ob.ids, keysOf, idsL, AV.ids, setL, pst])) (by simp [keysOf]) (by simp [keysOf]) ?_
    have b1 : ((1 : Nat) : Int) * ((is.length + 1 : Nat) : Int) ≤ 2 ^ 48 := by omega
    have b2 : ((is.length + 1 : Nat) : Int) < 2 ^ 47 := by omega
    simp only [go_sem, s_needle_states_step, hs, b1, b2]
    refine W_loop (fun k : Nat => is.length - k) (fun k => k ≤ is.length)
      (fun k => [(0, boolsV s), (1, itemsV is), (2, U8 b), (7, .own 103 1 0 (is.length + 1) true), (13, itemsV is), (14, I is.length), (15, I k)])
      (fun k => [(103, .row 1 true ((stepN is s b k).map bT))])
      0 (by omega) ?_ ?_
    · have e0 : (stepN is s b 0).map bT = List.replicate (is.length + 1) [T.v (.bool false)] := by simp [stepN]
      rw [e0]
      exact (sR_NdFind [] [])
    · intro k hk
      simp only [go_sem]
      refine W_split rfl (fun h1 => ?_) (fun h1 => ?_)
      · simp at h1
        obtain ⟨x, hx⟩ := get_of_lt h1
        obtain ⟨q1, q2⟩ := item_get hx
        have hg := getD_map s k (by omega)
        have ei : IntKind.i64.wrap ((k : Int) + 1) = ((k + 1 : Nat) : Int) := by rw [wrap_i64_of (by omega) (by omega)]; omega
        have hl := stepN_len is s b k
        cases hsk : s.getD k false
        · have hst : stepN is s b (k + 1) = stepN is s b k := by simp only [stepN, hsk, Bool.false_and, Bool.false_eq_true, if_false]
          simp only [go_sem, hx, itemT, hg, hsk, ei]
          refine rd_of (k + 1) (by first | omega | (simp only; omega)) (by first | omega | (simp only; omega)) ?_
          rw [hst]
          exact (sR_NdFind [] [])
        · simp only [go_sem, hx, itemT, hg, hsk]
          refine Cl_plain (f_needle_Fits x.1 b x.2 hb) ?_
          cases hf : x.1.testBit b
          · have hst : stepN is s b (k + 1) = stepN is s b k := by simp only [stepN, q2, hf, Bool.and_false, Bool.false_eq_true, if_false]
            simp only [go_sem, hf, ei]
            refine rd_of (k + 1) (by first | omega | (simp only; omega)) (by first | omega | (simp only; omega)) ?_
            rw [hst]
            exact (sR_NdFind [] [])
          · have hst : stepN is s b (k + 1) = reachM is (is.length + 1) (if x.2 then k else k + 1) (stepN is s b k) := by simp only [stepN, q2, hf, hsk, q1]; rfl
            cases hx2 : x.2
            · simp only [hx2, Bool.false_eq_true, if_false] at hst
              simp only [go_sem, hf, hx2, ei]
              refine oB (f_states_reach 103 is hn (stepN is s b k) (k + 1) hl (by omega)) ?_
              simp only [go_sem, ei]
              refine rd_of (k + 1) (by first | omega | (simp only; omega)) (by first | omega | (simp only; omega)) ?_
              rw [hst]
              exact (sR_NdFind [] [])
            · simp only [hx2, if_true] at hst
              simp only [go_sem, hf, hx2]
              refine oB (f_states_reach 103 is hn (stepN is s b k) k hl (by omega)) ?_
              simp only [go_sem, ei]
              refine rd_of (k + 1) (by first | omega | (simp only; omega)) (by first | omega | (simp only; omega)) ?_
              rw [hst]
              exact (sR_NdFind [] [])
      · simp at h1
        have e : k = is.length := by omega
        subst e
        simp only [go_sem]
        refine wO_NdFind [(0, 103)] [] ?_
        simp only [go_sem, r_needle_states_step, exists_eq_left', Option.some.injEq]
        simp [wkV, wkL, slTrees, AV.asOwn, rowPart, stoOf, AV.isNil, shA, rowsT, cellsT, cellT, ren]
  have := h0.ren (fun _ => id) (by simp [keysOf])
  exact this

theorem f_states_reach_z (id : Nat) (is : List Item) (hn : is.length ≤ 100000) (s : List Bool) (hs : s.length = is.length + 1) :
    Meets Tryz.prog E0 n_needle_states_reach [.own id 1 0 (is.length + 1) true, itemsV is, I 0] [(id, .row 1 true (s.map bT))] (.tp []) [(id, .row 1 true ((reachM is (is.length + 1) 0 s).map bT))] :=
  f_states_reach id is hn s 0 hs (Nat.zero_le _)

theorem f_needle_Found (a z : Bool) (is : List Item) (hn : is.length ≤ 100000) (tx : ByteArray) (ht : tx.size < 4611686018427387904) : Meets Tryz.prog E0 n_needle_Found [needleV a z is, .t (.v (.string tx))] [] (Bo (foundM a z is tx.data.toList)) [] := by
  generalize hout : foundM a z is tx.data.toList = out
  refine st0 m_needle_Found ?_
  have b1 : ((1 : Nat) : Int) * ((is.length + 1 : Nat) : Int) ≤ 2 ^ 48 := by omega
  have b2 : ((is.length + 1 : Nat) : Int) < 2 ^ 47 := by omega
  have ei : IntKind.i64.wrap ((is.length : Int) + 1) = ((is.length + 1 : Nat) : Int) := by rw [wrap_i64_of (by omega) (by omega)]; omega
  have e0 : List.replicate (is.length + 1) [T.v (.bool false)] = (List.replicate (is.length + 1) false).map bT := by simp
  have q1 : (is.length : Int) < ((is.length + 1 : Nat) : Int) := by omega
  simp only [go_sem, s_needle_Found, ei, b1, b2, e0]
  refine oB (f_states_reach_z 108 is hn (List.replicate (is.length + 1) false) (by simp)) ?_
  simp only [go_sem]
  refine W_loop (fun x : Nat × List Bool => tx.size - x.1) (fun x => x.1 ≤ tx.size ∧ x.2.length = is.length + 1 ∧ walkM a z is (tx.data.toList.drop x.1) x.2 = out)
    (fun x => [(1, .t (.v (.string tx))), (2, .ptr 100 0), (5, I is.length), (6, .own 999 1 0 (is.length + 1) true), (19, I tx.size), (20, I x.1)])
    (fun x => [(100, .box [Bo a, Bo z, itemsV is]), (999, .row 1 true (x.2.map bT))])
    (0, reachM is (is.length + 1) 0 (List.replicate (is.length + 1) false)) ⟨by simp only; omega, by rw [reachM_len]; simp, by rw [← hout]; rfl⟩ ?_ ?_
  · exact (sR_NdFind [(999, 108)] [])
  · rintro ⟨j, s⟩ ⟨hj, hs, hr⟩
    simp only at hj hs hr
    have hg := getD_map s is.length (by omega)
    simp only [go_sem]
    refine W_split rfl (fun h1 => ?_) (fun h1 => ?_)
    · simp at h1
      obtain ⟨c, hc⟩ := get_of_lt (l := tx.data.toList) (i := j) (by rw [ba_len]; exact h1)
      have hc2 : tx[j]? = some c := by rw [ba_get]; exact hc
      have hcb := u8_lt c
      have ej : IntKind.i64.wrap ((j : Int) + 1) = ((j + 1 : Nat) : Int) := by rw [wrap_i64_of (by omega) (by omega)]; omega
      rw [drop_get hc] at hr
      simp only [walkM] at hr
      have hsl2 := stepM_len is s c.toNat
      cases hsl : s.getD is.length false
      · simp only [hsl, Bool.false_and, Bool.false_eq_true, if_false] at hr
        simp only [go_sem, q1, hg, hsl, hc2]
        refine Cl_io [999] false (f_states_step 136 is hn s hs c.toNat hcb) ?_ (by simp [keysOf]) (by simp [keysOf, stoOf]) (by simp [stoOf, keysOf]) (by simp) (by simp [keysOf]) ?_
        · exact .one (Wk.row (by simp [slTrees, AV.asOwn, rowPart, stoOf, hs, take_map_len' s _ hs]) (by simp)) (.one (Wk.refl _) (.one (Wk.refl _) .nil))
        cases ha : a
        · simp only [ha, Bool.false_eq_true, if_false] at hr
          simp only [go_sem]
          refine oB (f_states_reach_z 136 is hn (stepM is s c.toNat) hsl2) ?_
          simp only [go_sem, ej]
          refine rd_of (j + 1, reachM is (is.length + 1) 0 (stepM is s c.toNat)) (by simp; omega) ⟨by simp; omega, by simp only; rw [reachM_len]; exact hsl2, hr⟩ ?_
          exact (sR_NdFind [(999, 136)] [])
        · simp only [ha, if_true] at hr
          simp only [go_sem, ej]
          refine rd_of (j + 1, stepM is s c.toNat) (by simp; omega) ⟨by simp; omega, hsl2, hr⟩ ?_
          exact (sR_NdFind [(999, 136)] [])
      · cases hz : z
        · subst hz
          simp only [hsl, Bool.true_and, Bool.not_false, if_true] at hr
          subst hr
          simp only [go_sem, q1, hg, hsl]
          refine wE ?_
          simp only [go_sem, r_needle_Found]
        · subst hz
          simp only [hsl, Bool.true_and, Bool.not_true, Bool.false_eq_true, if_false] at hr
          simp only [go_sem, q1, hg, hsl, hc2]
          refine Cl_io [999] false (f_states_step 136 is hn s hs c.toNat hcb) ?_ (by simp [keysOf]) (by simp [keysOf, stoOf]) (by simp [stoOf, keysOf]) (by simp) (by simp [keysOf]) ?_
          · exact .one (Wk.row (by simp [slTrees, AV.asOwn, rowPart, stoOf, hs, take_map_len' s _ hs]) (by simp)) (.one (Wk.refl _) (.one (Wk.refl _) .nil))
          cases ha : a
          · simp only [ha, Bool.false_eq_true, if_false] at hr
            simp only [go_sem]
            refine oB (f_states_reach_z 136 is hn (stepM is s c.toNat) hsl2) ?_
            simp only [go_sem, ej]
            refine rd_of (j + 1, reachM is (is.length + 1) 0 (stepM is s c.toNat)) (by simp; omega) ⟨by simp; omega, by simp only; rw [reachM_len]; exact hsl2, hr⟩ ?_
            exact (sR_NdFind [(999, 136)] [])
          · simp only [ha, if_true] at hr
            simp only [go_sem, ej]
            refine rd_of (j + 1, stepM is s c.toNat) (by simp; omega) ⟨by simp; omega, hsl2, hr⟩ ?_
            exact (sR_NdFind [(999, 136)] [])
    · simp at h1
      have e : j = tx.size := by omega
      subst e
      rw [List.drop_eq_nil_of_le (by rw [ba_len]; exact Nat.le_refl _)] at hr
      simp only [walkM] at hr
      simp only [go_sem, q1, hg, hr]
      refine wE ?_
      simp only [go_sem, r_needle_Found]

end Go.Proofs.YtaeleljlpcjcdaaGreatDoor
namespace Go.Proofs.YtaeleljlpcjcdaaGreatDoor
open Go Go.Sx

theorem sR_NdRef {io : List Nat} {env : List (Nat × AV)} {sto : List (Nat × Ob)} {env' : List (Nat × AV)} {sto' : List (Nat × Ob)} (rn : List (Nat × Nat)) (sn : List Nat)
    (h1 : envS sto sn rn env sto' env' := by simp [envS, go_sem, wkV, wkL, AV.ids, idsL, keysOf, ren, stoOf, slTrees, AV.asOwn, rowPart, AV.isNil, shA, rowsT, cellsT, cellT, wkLL, setL, pst] <;> assumption)
    (h2 : stoS sto sn rn sto' sto' := by simp [stoS, go_sem, wkV, wkL, wkO, AV.ids, Ob.ids, idsL, keysOf, ren, AV.one, stoOf, slTrees, AV.asOwn, rowPart, AV.isNil, shA, rowsT, cellsT, cellT, wkLL, setL, pst] <;> assumption)
    (h3 : ((keysOf sto').map (ren rn)).Nodup := by simp [keysOf, ren]) (h4 : ∀ i ∈ sn, 100 ≤ i ∧ isRow (stoOf sto i) = true ∧ ∀ j ∈ keysOf sto', ren rn j ≠ i := by simp [stoOf, keysOf, ren])
    (h5 : ∀ i ∈ io, ren rn i = i := by simp [keysOf, ren]) (h6 : ∀ i ∈ keysOf sto', ren rn i ∈ io → i = ren rn i := by simp [keysOf, ren]) :
    Sub io ⟨envOf env, stoOf sto⟩ ⟨envOf env', stoOf sto'⟩ := subL rn sn h1 h2 h3 h4 h5 h6

/-- A list whose first values are known, the others false. -/
def partL (E : Nat → Bool) (n k : Nat) : List Bool := (List.range n).map fun i => decide (i < k) && E i

theorem partL_zero (E : Nat → Bool) (n : Nat) : partL E n 0 = List.replicate n false := by
  apply List.ext_getElem?
  intro i
  simp only [partL, List.getElem?_map, List.getElem?_replicate, List.getElem?_range']
  by_cases h : i < n
  · simp [List.getElem?_range, h]
  · simp [List.getElem?_eq_none, h]

theorem partL_len (E : Nat → Bool) (n k : Nat) : (partL E n k).length = n := by simp [partL]

theorem partL_get (E : Nat → Bool) (n k i : Nat) (h : i < n) : (partL E n k)[i]? = some (decide (i < k) && E i) := by
  simp [partL, List.getElem?_range, h]

theorem partL_set (E : Nat → Bool) (n k : Nat) (x : Bool) (hk : k < n) (h : E k = x) : (partL E n k).set k x = partL E n (k + 1) := by
  subst h
  apply List.ext_getElem?
  intro i
  rw [List.getElem?_set]
  by_cases hi : i < n
  · rw [partL_get E n (k + 1) i hi, partL_get E n k i hi]
    by_cases e : k = i
    · subst e; simp [partL_len, hk]
    · rw [if_neg e]
      congr 2
      rw [decide_eq_decide]; omega
  · rw [List.getElem?_eq_none (l := partL E n (k + 1)) (by rw [partL_len]; omega), List.getElem?_eq_none (l := partL E n k) (by rw [partL_len]; omega)]
    by_cases e : k = i
    · omega
    · rw [if_neg e]

theorem partT_get (E : Nat → Bool) (n k i : Nat) (h : i < n) : ((partL E n k).map bT)[i]? = some (bT (decide (i < k) && E i)) := by
  rw [List.getElem?_map, partL_get E n k i h]; rfl

theorem partT_set (E : Nat → Bool) (n k : Nat) (x : Bool) (hk : k < n) (h : E k = x) : ((partL E n k).map bT).set k (bT x) = (partL E n (k + 1)).map bT := by
  rw [← List.map_set, partL_set E n k x hk h]

theorem nextE_star0 (f E : Nat → Bool) : nextE true f E 0 = E 0 := by simp [nextE]
theorem nextE_star (f E : Nat → Bool) (k : Nat) : nextE true f E (k + 1) = (E (k + 1) || (nextE true f E k && f k)) := by simp [nextE]
theorem nextE_one0 (f E : Nat → Bool) : nextE false f E 0 = false := by simp [nextE]
theorem nextE_one (f E : Nat → Bool) (k : Nat) : nextE false f E (k + 1) = (E k && f k) := by simp [nextE]

theorem endsE_snoc (a : Bool) (tx : List UInt8) : ∀ (is : List Item) (x : Item) (E : Nat → Bool), endsE a tx (is ++ [x]) E = nextE x.2 (fitTx tx x.1) (endsE a tx is E)
  | [], x, E => rfl
  | y :: is, x, E => by simp only [List.cons_append, endsE]; exact endsE_snoc a tx is x _

theorem take_snoc {α : Type} {l : List α} {i : Nat} {x : α} (h : l[i]? = some x) : l.take (i + 1) = l.take i ++ [x] := by
  rw [List.take_add_one, h]; rfl

theorem fitTx_get {tx : ByteArray} {k : Nat} {c : UInt8} (h : tx.data.toList[k]? = some c) (n : Nat) : fitTx tx.data.toList n k = n.testBit c.toNat := by
  simp [fitTx, h]

theorem f_ref09_Found (a z : Bool) (is : List Item) (hn : is.length ≤ 100000) (tx : ByteArray) (ht : tx.size < 70368744177664) : Meets Tryz.prog E0 n_ref09_Found [needleV a z is, .t (.v (.string tx))] [] (Bo (refM a z is tx.data.toList)) [] := by
  refine st0 m_ref09_Found ?_
  have b1 : ((1 : Nat) : Int) * ((tx.size + 1 : Nat) : Int) ≤ 2 ^ 48 := by omega
  have b2 : ((tx.size + 1 : Nat) : Int) < 2 ^ 47 := by omega
  have ei : IntKind.i64.wrap ((tx.size : Int) + 1) = ((tx.size + 1 : Nat) : Int) := by rw [wrap_i64_of (by omega) (by omega)]; omega
  have e0 : ∀ E, List.replicate (tx.size + 1) [T.v (.bool false)] = (partL E (tx.size + 1) 0).map bT := by intro E; rw [partL_zero]; simp
  simp only [go_sem, s_ref09_Found, ei, b1, b2]
  rw [e0 (firstE a)]
  refine W_loop (fun k : Nat => tx.size + 1 - k) (fun k => k ≤ tx.size + 1)
    (fun k => [(1, .t (.v (.string tx))), (2, .ptr 100 0), (5, .own 105 1 0 (tx.size + 1) true), (6, I k)])
    (fun k => [(100, .box [Bo a, Bo z, itemsV is]), (105, .row 1 true ((partL (firstE a) (tx.size + 1) k).map bT))])
    0 (by omega) ?_ ?_
  · exact (sR_NdRef [] [])
  · intro k hk
    simp only [go_sem, s_ref09_Found_b0]
    refine W_split rfl (fun h1 => ?_) (fun h1 => ?_)
    · simp at h1
      have ek : IntKind.i64.wrap ((k : Int) + 1) = ((k + 1 : Nat) : Int) := by rw [wrap_i64_of (by omega) (by omega)]; omega
      have q1 : (k : Int) < ((tx.size + 1 : Nat) : Int) := by omega
      have hg := partT_get (firstE a) (tx.size + 1) k k (by omega)
      have hs := partT_set (firstE a) (tx.size + 1) k (!a || decide (k = 0)) (by omega) rfl
      cases ha : a
      · simp only [ha, Bool.not_false, Bool.true_or] at hs hg
        simp only [go_sem, q1, hg, hs, ek]
        refine rd_of (k + 1) (by first | omega | (simp only; omega)) (by first | omega | (simp only; omega)) ?_
        exact (sR_NdRef [] [])
      · simp only [ha, Bool.not_true, Bool.false_or] at hs hg
        simp only [go_sem, q1, hg, hs, ek]
        refine rd_of (k + 1) (by first | omega | (simp only; omega)) (by first | omega | (simp only; omega)) ?_
        exact (sR_NdRef [] [])
    · simp at h1
      have e : k = tx.size + 1 := by omega
      subst e
      simp only [go_sem, s_ref09_Found_t8]
      generalize hL : tx.data.toList = L at *
      refine W_loop (fun j : Nat => is.length - j) (fun j => j ≤ is.length)
        (fun j => [(1, .t (.v (.string tx))), (2, .ptr 100 0), (5, .own 999 1 0 (tx.size + 1) true), (7, I j)])
        (fun j => [(100, .box [Bo a, Bo z, itemsV is]), (999, .row 1 true ((partL (endsE a L (is.take j) (firstE a)) (tx.size + 1) (tx.size + 1)).map bT))])
        0 (by omega) ?_ ?_
      · rw [show is.take 0 = [] from rfl, show endsE a L [] (firstE a) = firstE a from rfl]
        exact (sR_NdRef [(999, 105)] [])
      · intro j hj
        simp only [go_sem, s_ref09_Found_b4]
        refine W_split rfl (fun h2 => ?_) (fun h2 => ?_)
        · simp at h2
          obtain ⟨x, hx⟩ := get_of_lt h2
          have ej : IntKind.i64.wrap ((j : Int) + 1) = ((j + 1 : Nat) : Int) := by rw [wrap_i64_of (by omega) (by omega)]; omega
          have hnx : endsE a L (is.take (j + 1)) (firstE a) = nextE x.2 (fitTx L x.1) (endsE a L (is.take j) (firstE a)) := by
            rw [take_snoc hx, endsE_snoc]
          generalize endsE a L (is.take j) (firstE a) = E at *
          generalize hE : nextE x.2 (fitTx L x.1) E = E' at *
          simp only [go_sem, ei, b1, b2, e0 E']
          refine W_loop (fun k : Nat => tx.size + 1 - k) (fun k => k ≤ tx.size + 1)
            (fun k => [(1, .t (.v (.string tx))), (2, .ptr 100 0), (5, .own 999 1 0 (tx.size + 1) true), (7, I j), (8, .own 135 1 0 (tx.size + 1) true), (9, I k)])
            (fun k => [(100, .box [Bo a, Bo z, itemsV is]), (999, .row 1 true ((partL E (tx.size + 1) (tx.size + 1)).map bT)), (135, .row 1 true ((partL E' (tx.size + 1) k).map bT))])
            0 (by omega) ?_ ?_
          · exact (sR_NdRef [] [])
          · intro k hk
            simp only [go_sem, s_ref09_Found_b1]
            refine W_split rfl (fun h3 => ?_) (fun h3 => ?_)
            · simp at h3
              have ek : IntKind.i64.wrap ((k : Int) + 1) = ((k + 1 : Nat) : Int) := by rw [wrap_i64_of (by omega) (by omega)]; omega
              have q1 : (k : Int) < ((tx.size + 1 : Nat) : Int) := by omega
              have q2 : (j : Int) < (is.length : Int) := by omega
              have hg := partT_get E' (tx.size + 1) k k (by omega)
              have hgE := partT_get E (tx.size + 1) (tx.size + 1) k (by omega)
              rw [decide_eq_true (show k < tx.size + 1 by omega), Bool.true_and] at hgE
              have hs := fun v (hv : E' k = v) => partT_set E' (tx.size + 1) k v (by omega) hv
              cases hst : x.2
              · rw [hst] at hE
                cases k with
                | zero =>
                  have hv : E' 0 = false := by rw [← hE, nextE_one0]
                  simp only [go_sem, q1, q2, hx, itemT, hst, hg, hs _ hv, ek, show decide ((0 : Int) < ((0 : Nat) : Int)) = false from rfl]
                  refine rd_of 1 (by first | omega | (simp only; omega)) (by first | omega | (simp only; omega)) ?_
                  exact (sR_NdRef [] [])
                | succ m =>
                  obtain ⟨c, hc⟩ := get_of_lt (l := L) (i := m) (by rw [← hL, ba_len]; omega)
                  have hc2 : tx[m]? = some c := by rw [ba_get, hL]; exact hc
                  have hv : E' (m + 1) = (E m && x.1.testBit c.toNat) := by rw [← hE, nextE_one, ← hL, fitTx_get (by rw [hL]; exact hc)]
                  have hgm := partT_get E (tx.size + 1) (tx.size + 1) m (by omega)
                  rw [decide_eq_true (show m < tx.size + 1 by omega), Bool.true_and] at hgm
                  have e1 : IntKind.i64.wrap (((m + 1 : Nat) : Int) - 1) = ((m : Nat) : Int) := by rw [wrap_i64_of (by omega) (by omega)]; omega
                  have d1 : decide ((0 : Int) < ((m + 1 : Nat) : Int)) = true := decide_eq_true (by omega)
                  have q3 : (m : Int) < ((tx.size + 1 : Nat) : Int) := by omega
                  cases hEm : E m
                  · rw [hEm, Bool.false_and] at hv
                    simp only [go_sem, q1, q2, q3, hx, itemT, hst, hg, hs _ hv, ek, d1, e1, hgm, hEm]
                    refine rd_of (m + 1 + 1) (by first | omega | (simp only; omega)) (by first | omega | (simp only; omega)) ?_
                    exact (sR_NdRef [] [])
                  · rw [hEm, Bool.true_and] at hv
                    simp only [go_sem, q1, q2, q3, hx, itemT, hst, d1, e1, hgm, hEm, hc2]
                    refine Cl_plain (f_ref09_Fits x.1 c.toNat false (u8_lt c)) ?_
                    simp only [go_sem, q1, hg, hs _ hv, ek]
                    refine rd_of (m + 1 + 1) (by first | omega | (simp only; omega)) (by first | omega | (simp only; omega)) ?_
                    exact (sR_NdRef [] [])
              · rw [hst] at hE
                cases k with
                | zero =>
                  have hv : E' 0 = E 0 := by rw [← hE, nextE_star0]
                  cases hE0 : E 0
                  · rw [hE0] at hv
                    simp only [go_sem, q1, q2, hx, itemT, hst, hg, hgE, hE0, hs _ hv, ek, show decide ((0 : Int) < ((0 : Nat) : Int)) = false from rfl]
                    refine rd_of 1 (by first | omega | (simp only; omega)) (by first | omega | (simp only; omega)) ?_
                    exact (sR_NdRef [] [])
                  · rw [hE0] at hv
                    simp only [go_sem, q1, q2, hx, itemT, hst, hg, hgE, hE0, hs _ hv, ek]
                    refine rd_of 1 (by first | omega | (simp only; omega)) (by first | omega | (simp only; omega)) ?_
                    exact (sR_NdRef [] [])
                | succ m =>
                  obtain ⟨c, hc⟩ := get_of_lt (l := L) (i := m) (by rw [← hL, ba_len]; omega)
                  have hc2 : tx[m]? = some c := by rw [ba_get, hL]; exact hc
                  have hv : E' (m + 1) = (E (m + 1) || (E' m && x.1.testBit c.toNat)) := by rw [← hE, nextE_star, ← hL, fitTx_get (by rw [hL]; exact hc)]
                  have hgm := partT_get E' (tx.size + 1) (m + 1) m (by omega)
                  rw [decide_eq_true (show m < m + 1 by omega), Bool.true_and] at hgm
                  have e1 : IntKind.i64.wrap (((m + 1 : Nat) : Int) - 1) = ((m : Nat) : Int) := by rw [wrap_i64_of (by omega) (by omega)]; omega
                  have d1 : decide ((0 : Int) < ((m + 1 : Nat) : Int)) = true := decide_eq_true (by omega)
                  have q3 : (m : Int) < ((tx.size + 1 : Nat) : Int) := by omega
                  cases hE0 : E (m + 1)
                  · rw [hE0, Bool.false_or] at hv
                    cases hEm : E' m
                    · rw [hEm, Bool.false_and] at hv
                      simp only [go_sem, q1, q2, q3, hx, itemT, hst, hg, hgE, hE0, hs _ hv, ek, d1, e1, hgm, hEm]
                      refine rd_of (m + 1 + 1) (by first | omega | (simp only; omega)) (by first | omega | (simp only; omega)) ?_
                      exact (sR_NdRef [] [])
                    · rw [hEm, Bool.true_and] at hv
                      simp only [go_sem, q1, q2, q3, hx, itemT, hst, hg, hgE, hE0, d1, e1, hgm, hEm, hc2]
                      refine Cl_plain (f_ref09_Fits x.1 c.toNat true (u8_lt c)) ?_
                      simp only [go_sem, q1, hg, hs _ hv, ek]
                      refine rd_of (m + 1 + 1) (by first | omega | (simp only; omega)) (by first | omega | (simp only; omega)) ?_
                      exact (sR_NdRef [] [])
                  · rw [hE0, Bool.true_or] at hv
                    simp only [go_sem, q1, q2, hx, itemT, hst, hg, hgE, hE0, hs _ hv, ek]
                    refine rd_of (m + 1 + 1) (by first | omega | (simp only; omega)) (by first | omega | (simp only; omega)) ?_
                    exact (sR_NdRef [] [])
            · simp at h3
              have e : k = tx.size + 1 := by omega
              subst e
              simp only [go_sem, s_ref09_Found_t2, s_ref09_Found_t3, ej]
              refine rd_of (j + 1) (by first | omega | (simp only; omega)) (by first | omega | (simp only; omega)) ?_
              rw [hnx]
              exact (sR_NdRef [(999, 135)] [])
        · simp at h2
          have e : j = is.length := by omega
          subst e
          rw [List.take_length]
          generalize hE : endsE a L is (firstE a) = E
          have hrm : refM a z is L = (if z then E tx.size else (List.range (tx.size + 1)).any E) := by
            unfold refM; rw [hE, ← hL, ba_len]
          rw [hrm]
          have hgt : ∀ i, i < tx.size + 1 → ((partL E (tx.size + 1) (tx.size + 1)).map bT)[i]? = some (bT (E i)) := fun i hi => by
            rw [partT_get E _ _ i hi, decide_eq_true hi, Bool.true_and]
          cases hz : z
          · simp only [go_sem, s_ref09_Found_t7, hz]
            refine W_loop (fun k : Nat => tx.size + 1 - k) (fun k => k ≤ tx.size + 1 ∧ ∀ i < k, E i = false)
              (fun k => [(1, .t (.v (.string tx))), (5, .own 999 1 0 (tx.size + 1) true), (10, I k)])
              (fun k => [(999, .row 1 true ((partL E (tx.size + 1) (tx.size + 1)).map bT))])
              0 ⟨by omega, by simp⟩ ?_ ?_
            · exact (sR_NdRef [] [])
            · rintro k ⟨hk, hall⟩
              simp only [go_sem, s_ref09_Found_b5]
              refine W_split rfl (fun h3 => ?_) (fun h3 => ?_)
              · simp at h3
                have q1 : (k : Int) < ((tx.size + 1 : Nat) : Int) := by omega
                have ek : IntKind.i64.wrap ((k : Int) + 1) = ((k + 1 : Nat) : Int) := by rw [wrap_i64_of (by omega) (by omega)]; omega
                cases hEk : E k
                · simp only [go_sem, q1, hgt k (by omega), hEk, ek]
                  refine rd_of (k + 1) (by first | omega | (simp only; omega)) ⟨by first | omega | (simp only; omega), fun i hi => ?_⟩ ?_
                  · rcases Nat.lt_succ_iff_lt_or_eq.1 hi with h | h
                    · exact hall i h
                    · rw [h]; exact hEk
                  exact (sR_NdRef [] [])
                · simp only [go_sem, q1, hgt k (by omega), hEk]
                  refine wE ?_
                  simp only [go_sem, r_ref09_Found]
                  have : (List.range (tx.size + 1)).any E = true := List.any_eq_true.2 ⟨k, by simp; omega, hEk⟩
                  rw [List.range_succ] at this; rw [this]; try rfl
              · simp at h3
                simp only [go_sem, s_ref09_Found_t6]
                refine wE ?_
                simp only [go_sem, r_ref09_Found]
                have : (List.range (tx.size + 1)).any E = false := by
                  rw [List.any_eq_false]
                  intro i hi
                  rw [hall i (by simp at hi; omega)]; simp
                rw [List.range_succ] at this; rw [this]; try rfl
          · have q1 : (tx.size : Int) < ((tx.size + 1 : Nat) : Int) := by omega
            simp only [go_sem, s_ref09_Found_t7, hz, q1, hgt tx.size (by omega)]
            refine wE ?_
            simp only [go_sem, r_ref09_Found]

end Go.Proofs.YtaeleljlpcjcdaaGreatDoor
