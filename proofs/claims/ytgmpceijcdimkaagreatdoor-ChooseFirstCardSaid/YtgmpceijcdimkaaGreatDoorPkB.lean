/- Texts of mine, many in one. No statement of the seat is proved here. -/
import Derived.Test.YtgmpceijcdimkaaGreatDoorPkA
import Derived.Test.YtgmpceijcdimkaaGreatDoorSxH
import Derived.WalkKit
import Derived.Maps.OwnSet
import Derived.Maps.Views
import Derived.Shelf.Lay
set_option linter.unusedSimpArgs false
set_option linter.unusedVariables false
namespace Go.Proofs.YtgmpceijcdimkaaGreatDoor
open Go Go.Sx Go.RowKit Go.Maps Go.Shelf

/-- The table of calls: a word, its kind, its way. -/
def ruleTab : List (List UInt8 × Int × Int) := [([108, 105, 109, 105, 116], 1, 0), ([103, 114, 111, 117, 112], 1, 0), ([115, 111, 114, 116, 66, 121, 78, 97, 109, 101], 1, 0), ([104, 105, 103, 104, 101, 115, 116, 65, 118, 101, 114, 97, 103, 101], 2, 1), ([104, 105, 103, 104, 101, 115, 116, 77, 97, 120], 2, 4), ([104, 105, 103, 104, 101, 115, 116, 67, 117, 114, 114, 101, 110, 116], 2, 5), ([115, 111, 114, 116, 66, 121, 84, 111, 116, 97, 108], 2, 2), ([115, 111, 114, 116, 66, 121, 77, 97, 120, 105, 109, 97], 2, 4), ([108, 111, 119, 101, 115, 116, 65, 118, 101, 114, 97, 103, 101], 3, 1), ([108, 111, 119, 101, 115, 116, 67, 117, 114, 114, 101, 110, 116], 3, 5), ([115, 111, 114, 116, 66, 121, 77, 105, 110, 105, 109, 97], 3, 3), ([97, 118, 101, 114, 97, 103, 101, 65, 98, 111, 118, 101], 4, 1), ([109, 97, 120, 105, 109, 117, 109, 65, 98, 111, 118, 101], 4, 4), ([109, 105, 110, 105, 109, 117, 109, 65, 98, 111, 118, 101], 4, 3), ([99, 117, 114, 114, 101, 110, 116, 65, 98, 111, 118, 101], 4, 5), ([97, 118, 101, 114, 97, 103, 101, 66, 101, 108, 111, 119], 5, 1), ([109, 97, 120, 105, 109, 117, 109, 66, 101, 108, 111, 119], 5, 4), ([109, 105, 110, 105, 109, 117, 109, 66, 101, 108, 111, 119], 5, 3), ([99, 117, 114, 114, 101, 110, 116, 66, 101, 108, 111, 119], 5, 5), ([103, 114, 101, 112], 6, 0), ([101, 120, 99, 108, 117, 100, 101], 6, 0), ([97, 108, 105, 97, 115], 7, 0), ([97, 108, 105, 97, 115, 66, 121, 78, 111, 100, 101], 7, 0)]

def ruleD (p : Int × Int) : DataW Unit := .agg [.lit (.int .i64 p.1), .lit (.int .i64 p.2)]
def ruleR (v : Value) : Option (DataW Unit × List MemPlace) := match v with
 | .agg a => (match a.toList with
  | [x, y] => (match x, y with
   | .int .i64 a, .int .i64 b => some (ruleD (a, b), [])
   | _, _ => none)
  | _ => none)
 | _ => none

theorem ruleR_inv {v : Value} {z : Int × Int} {ps : List MemPlace} (h : ruleR v = some (ruleD z, ps)) : v = .agg #[.int .i64 z.1, .int .i64 z.2] := by
 unfold ruleR at h
 split at h
 ·rename_i a
  split at h
  ·rename_i x y e
   split at h
   ·simp only [ruleD, Option.some.injEq, Prod.mk.injEq, DataW.agg.injEq, List.cons.injEq, DataW.lit.injEq, Lit.int.injEq, and_true, true_and] at h
    obtain ⟨⟨rfl, rfl⟩, _⟩ := h
    cases a
    simp only at e
    subst e
    rfl
   ·cases h
  ·cases h
 ·cases h

def tabD (t : List (List UInt8 × Int × Int)) : DataW Unit := t.foldl (fun D p => D.put (.string p.1) (ruleD p.2)) (.map [])
def ruleOf (t : List (List UInt8 × Int × Int)) (l : List UInt8) : Option (Int × Int) := t.foldl (fun o p => if p.1 = l then some p.2 else o) none

theorem tabD_snoc (t : List (List UInt8 × Int × Int)) (p : List UInt8 × Int × Int) : tabD (t ++ [p]) = (tabD t).put (.string p.1) (ruleD p.2) := by
 unfold tabD; rw [List.foldl_append]; rfl
theorem ruleOf_snoc (t : List (List UInt8 × Int × Int)) (p : List UInt8 × Int × Int) (l : List UInt8) : ruleOf (t ++ [p]) l = if p.1 = l then some p.2 else ruleOf t l := by
 unfold ruleOf; rw [List.foldl_append]; rfl

theorem tabD_map (t : List (List UInt8 × Int × Int)) : IsMap (tabD t) := by
 induction t using snoc_ind with
 | h0 => exact ⟨[], rfl⟩
 | h1 l x ih => rw [tabD_snoc]; exact ih.put _ _

theorem tabD_at (t : List (List UInt8 × Int × Int)) (l : List UInt8) (z : Int × Int) : (tabD t).atKey (.string l) (ruleD z) = ruleD ((ruleOf t l).getD z) ∧ has (tabD t) (.string l) = (ruleOf t l).isSome := by
 induction t using snoc_ind with
 | h0 => exact ⟨rfl, rfl⟩
 | h1 t x ih =>
  rw [tabD_snoc, ruleOf_snoc]
  by_cases h : x.1 = l
  ·rw [if_pos h, ← h]
   exact ⟨atKey_put_same (tabD_map t) (by simp [WideAt.IsKeyLit]) _ _, has_put_same (tabD_map t) (by simp [WideAt.IsKeyLit]) _⟩
  ·rw [if_neg h]
   have hne : Lit.string l ≠ Lit.string x.1 := fun e => h (by injection e with e; exact e.symm)
   rw [atKey_put_other hne, has_put_other hne]
   exact ih

/-- The map that the call makes, and what has stayed. -/
structure MapAt (w0 w : World) (b n : Nat) (D : DataW Unit) : Prop where
 own : w.ownsMap Tryz.prog 9 ruleR b n D
 hb : w0.heap.size ≤ b
 os : w.os = w0.os
 tape : w.tape = w0.tape
 output : w.output = w0.output
 size : w0.heap.size ≤ w.heap.size
 block : ∀ k, k < w0.heap.size → w.heap[k]? = w0.heap[k]?
 bb : b = w0.heap.size + 1
 lt : w0.heap.size < w.heap.size
 cell : w.heap[w0.heap.size]? = some (.cells #[.int .i64 0, .int .i64 0] 53 (0, 0))

theorem MapAt.c0 {w0 w : World} {b n : Nat} {D : DataW Unit} (h : MapAt w0 w b n D) : w.cell? ⟨w0.heap.size, 0, none⟩ = some (.int .i64 0) ∧ w.cell? ⟨w0.heap.size, 1, none⟩ = some (.int .i64 0) ∧ w.frozen? ⟨w0.heap.size, 0, none⟩ = false ∧ w.frozen? ⟨w0.heap.size, 1, none⟩ = false := by
 simp [World.cell?, World.frozen?, h.cell]

theorem mapAt_made (w0 : World) : MapAt w0 ((w0.alloc (.cells #[.int .i64 0, .int .i64 0] 53)).alloc (.map #[] 0)) (w0.heap.size + 1) 0 (tabD []) where
 own := by
  have h := World.ownsMap_made (w0.alloc (.cells #[.int .i64 0, .int .i64 0] 53)) Tryz.prog 9 ruleR
  rw [show (w0.alloc (.cells #[.int .i64 0, .int .i64 0] 53)).heap.size = w0.heap.size + 1 by simp] at h
  exact h
 hb := by simp
 os := rfl
 tape := rfl
 output := rfl
 size := by simp; omega
 block := fun k hk => by rw [hao (w0.alloc _) _ k (by simp; omega), hao w0 _ k hk]
 bb := rfl
 lt := by simp; omega
 cell := by
  rw [hao (w0.alloc _) _ _ (by simp)]
  show (w0.heap.push _)[w0.heap.size]? = _
  simp

theorem strKey : Keyed Tryz.prog 9 := string_keyed Tryz.underlying9

theorem wpList_insertG {H : Type} {P : Program} (w : World) {ops : Array Oper} {rest : List Oper} {o : Oper} {a : Act} {Q : Exit → Act → World → Prop}
  (hg : o.guard = none) (m x v : Operand) (t : TypeId) (hop : o.op = Op.insert t m x v)
  (k e : TypeId) (K : Keyed P k) (ht : P.underlying t = some (.map k e)) (R : Value → Option (DataW H × List MemPlace)) (b n : Nat) (D : DataW H)
  (hm : a.eval m = .map (some b)) (hown : w.ownsMap P k R b n D) (hn : n < maxLen) (key val : Value) (kl : Lit) (hx : a.eval x = key) (hv : a.eval v = val) (hkey : keyOf P k key = some kl)
  (d : DataW H) (ps : List MemPlace) (hval : R val = some (d, ps))
  (hK : ∀ w', w'.ownsMap P k R b (n + 1) (D.put kl d) → w.grownBy w' (some b) → wpList P ops Q rest (a.put o.dst undef) w') :
  wpList P ops Q (o :: rest) a w := by
 refine wpList_plain hg fun K' hK' => ?_
 obtain ⟨w', hrun, r1, r2⟩ := hown.update K ht hn hkey hval
 unfold Oper.wp
 simp [execOp, hop, hm, hx, hv, hrun, Result.andThen]
 exact hK' _ _ (hK w' r1 r2)

theorem wpList_insert_own {w0 : World} (w : World) {ops : Array Oper} {rest : List Oper} {o : Oper} {a : Act} {Q : Exit → Act → World → Prop}
  (hg : o.guard = none) (m x v : Operand) (hop : o.op = Op.insert 80 m x v) (b n : Nat) (t : List (List UInt8 × Int × Int))
  (hm : a.eval m = .map (some b)) (hown : MapAt w0 w b n (tabD t)) (hn : n < 100) (s : ByteArray) (z1 z2 : Int) (hx : a.eval x = .string s) (hv : a.eval v = .agg #[.int .i64 z1, .int .i64 z2]) (hs : decide (s.size ≤ 100) = true)
  (hK : ∀ w', MapAt w0 w' b (n + 1) (tabD (t ++ [(s.data.toList, z1, z2)])) → wpList Tryz.prog ops Q rest (a.put o.dst undef) w') :
  wpList Tryz.prog ops Q (o :: rest) a w := by
 replace hs := of_decide_eq_true hs
 have hsl : s.size ≤ maxLen := by have : maxLen = 9223372036854775807 := rfl; omega
 have hkey : keyOf Tryz.prog 9 (.string s) = some (.string s.data.toList) := Go.WideMaps.keyOf_string_mk Tryz.underlying9 hsl
 refine wpList_insertG w hg m x v 80 hop 9 53 strKey Tryz.underlying80 ruleR b n (tabD t) hm hown.own (by have : maxLen = 9223372036854775807 := rfl; omega) _ _ _ hx hv hkey (ruleD (z1, z2)) [] rfl fun w' r1 r2 => ?_
 refine hK w' ⟨?_, hown.hb, r2.os.trans hown.os, r2.tape.trans hown.tape, r2.output.trans hown.output, Nat.le_trans hown.size r2.size, fun k hk => (r2.block k (Nat.lt_of_lt_of_le hk hown.size) (fun e => ?_)).trans (hown.block k hk), hown.bb, Nat.lt_of_lt_of_le hown.lt r2.size, (r2.block _ hown.lt (fun e => ?_)).trans hown.cell⟩
 ·rw [tabD_snoc]; exact r1
 ·have e : k = b := Option.some.inj e
  have := hown.hb
  omega
 ·have e : w0.heap.size = b := Option.some.inj e
  have := hown.bb
  omega

theorem wpList_look_own {w0 : World} (w : World) {ops : Array Oper} {rest : List Oper} {o : Oper} {a : Act} {Q : Exit → Act → World → Prop}
  (hg : o.guard = none) (m x : Operand) (hop : o.op = Op.lookup 80 m x true) (b n : Nat) (t : List (List UInt8 × Int × Int))
  (hm : a.eval m = .map (some b)) (hown : MapAt w0 w b n (tabD t)) (s : ByteArray) (hx : a.eval x = .string s) (hs : s.size ≤ maxLen)
  (k1 k2 : Int) (bb : Bool) (hr1 : (ruleOf t s.data.toList).getD (0, 0) = (k1, k2)) (hr2 : (ruleOf t s.data.toList).isSome = bb)
  (hK : MapAt w0 w b n (tabD t) → wpList Tryz.prog ops Q rest (a.put o.dst (.tuple #[.agg #[.int .i64 k1, .int .i64 k2], .bool bb])) w) :
  wpList Tryz.prog ops Q (o :: rest) a w := by
 obtain ⟨e1, e2⟩ := tabD_at t s.data.toList (0, 0)
 refine wpList_lookup_own_ok w hg m x 80 hop 9 53 strKey Tryz.underlying80 ruleR (z := .agg #[.int .i64 0, .int .i64 0]) (by kernel_rfl) (ruleD (0, 0)) [] rfl b n (tabD t) hm hown.own (.string s) (.string s.data.toList) hx (Go.WideMaps.keyOf_string_mk Tryz.underlying9 hs) fun v ps hv => ?_
 rw [e1, hr1] at hv
 rw [ruleR_inv hv, e2, hr2]
 exact hK hown

theorem fin_world {w : World} {b : Nat} {x y : Value} {t : TypeId} (hc : w.heap[b]? = some (.cells #[x, y] t (0, 0))) (hlt : b < w.heap.size) (v1 v2 : Value) (o : Obj) :
  (((w.setCell ⟨b, 0, none⟩ v1).setCell ⟨b, 1, none⟩ v2).alloc o).heap[b]? = some (.cells #[v1, v2] t (0, 0)) ∧ (((w.setCell ⟨b, 0, none⟩ v1).setCell ⟨b, 1, none⟩ v2).alloc o).heap.size = w.heap.size + 1 ∧
  (∀ k, k ≠ b → k < w.heap.size → (((w.setCell ⟨b, 0, none⟩ v1).setCell ⟨b, 1, none⟩ v2).alloc o).heap[k]? = w.heap[k]?) ∧ (((w.setCell ⟨b, 0, none⟩ v1).setCell ⟨b, 1, none⟩ v2).alloc o).os = w.os ∧ (((w.setCell ⟨b, 0, none⟩ v1).setCell ⟨b, 1, none⟩ v2).alloc o).tape = w.tape ∧ (((w.setCell ⟨b, 0, none⟩ v1).setCell ⟨b, 1, none⟩ v2).alloc o).output = w.output := by
 have hsz : ((w.setCell ⟨b, 0, none⟩ v1).setCell ⟨b, 1, none⟩ v2).heap.size = w.heap.size := by simp [World.setCell]
 refine ⟨?_, ?_, fun k hk hkl => ?_, rfl, rfl, rfl⟩
 ·rw [hao _ _ _ (by rw [hsz]; exact hlt)]
  simp [World.setCell, Array.getElem?_modify, hc]
 ·show (_ : Array Obj).size = _
  simp [World.alloc, hsz]
 ·rw [hao _ _ _ (by rw [hsz]; exact hkl)]
  simp [World.setCell, Array.getElem?_modify, Ne.symm hk]

theorem res_ruled (tm : Array Value) (w : World) (b : Nat) (k1 k2 : Int) (bb : Bool) (h2 : tm.getD 2 undef = .pointer (some ⟨b, 0, none⟩)) (h3 : tm.getD 3 undef = .bool bb) (hc : w.heap[b]? = some (.cells #[.int .i64 k1, .int .i64 k2] 53 (0, 0))) :
  (results Tryz.f26 tm).run Tryz.prog w = .ok (.tuple #[.agg #[.int .i64 k1, .int .i64 k2], .bool bb]) w := by
 have hl := run_loadVar (P := Tryz.prog) (w := w) Tryz.underlying53 (show sizeT Tryz.prog 53 = some 2 by kernel_rfl) ⟨b, 0, none⟩ [.int .i64 k1, .int .i64 k2] (fun j v hj => by
  match j, hj with
  | 0, hj => simp at hj; subst hj; simp [World.cell?, Addr.add, hc]
  | 1, hj => simp at hj; subst hj; simp [World.cell?, Addr.add, hc]
  | j + 2, hj => simp at hj)
 have hf : Tryz.f26.results = #[.cell 2 53, .tmp 3] := by kernel_rfl
 have hl' : (loadVar 53 ⟨b, 0, none⟩).run Tryz.prog w = .ok (.agg #[.int .i64 k1, .int .i64 k2]) w := hl rfl
 have hasA : (asAddr (tm.getD 2 undef)).run Tryz.prog w = .ok ⟨b, 0, none⟩ w := by rw [h2]; rfl
 unfold results
 rw [hf, Array.mapM_eq_mapM_toList]
 simp only [Sem.run_bind, Sem.run_map, Sem.run_pure, List.mapM_cons, List.mapM_nil, hasA, hl', h3, Result.andThen_ok]
 rfl

set_option maxRecDepth 100000 in
set_option maxHeartbeats 2000000 in
theorem calls_ruled (s : ByteArray) (hs : s.size ≤ maxLen) (k1 k2 : Int) (bb : Bool) (hr1 : (ruleOf ruleTab s.data.toList).getD (0, 0) = (k1, k2)) (hr2 : (ruleOf ruleTab s.data.toList).isSome = bb) (w : World) : Calls Tryz.prog 26 #[.string s] w fun e w' => e = .returned (.tuple #[.agg #[.int .i64 k1, .int .i64 k2], .bool bb]) ∧ Grown E0 w w' := by
 have hmm := @run_makeMap Tryz.prog
 go_enter Tryz.func26, Tryz.ntmps26
 go_wp2_with (first | (refine wpList_insert_own (w0 := w) _ rfl _ _ _ rfl _ _ _ rfl (by first | assumption | exact mapAt_made _) (by decide) _ _ _ rfl rfl rfl ?_; intro w1 hown1) | (refine wpList_look_own (w0 := w) _ rfl _ _ rfl _ _ _ rfl (by assumption) _ rfl hs k1 k2 bb hr1 hr2 ?_; intro hown1; have hlt1 := hown1.lt; obtain ⟨hc0, hc1, hf0, hf1⟩ := hown1.c0) | go_in)
 have hfw := fin_world hown1.cell hown1.lt (.int .i64 k1) (.int .i64 k2) (.cells #[.int .i64 k1, .int .i64 k2] 53)
 obtain ⟨g1, g2, g3, g4, g5, g6⟩ := hfw
 refine bodyPost_ret (res_ruled _ _ _ k1 k2 bb rfl rfl g1) rfl ⟨rfl, ?_⟩
 have hlt2 := hown1.lt
 exact ⟨g4.trans hown1.os, g5.trans hown1.tape, g6.trans hown1.output, fun h => absurd h (by intro h; exact h), by rw [g2]; omega, fun k hk => (g3 k (by omega) (by omega)).trans (hown1.block k hk)⟩

/-- How a call chooses: its kind, its way, and whether there is one. -/
def ruledM (l : List UInt8) : (Int × Int) × Bool := ((ruleOf ruleTab l).getD (0, 0), (ruleOf ruleTab l).isSome)

theorem f_choose_ruled (l : List UInt8) (hl : l.length ≤ 1000000000) : Meets Tryz.prog E0 n_choose_ruled [Str (toB l)] [] (.tp [.ag [I (ruledM l).1.1, I (ruledM l).1.2], Bo (ruledM l).2]) [] :=
 meets_lib (vals := [.string (toB l)]) (v := .tuple #[.agg #[.int .i64 (ruledM l).1.1, .int .i64 (ruledM l).1.2], .bool (ruledM l).2]) (enters_of Tryz.func26 (by kernel_rfl) rfl)
  (fun A φ w => by simp only [CA, CAs, CT]; exact ⟨_, rfl, _, _, rfl, ⟨_, rfl, _, _, rfl, ⟨rfl, rfl⟩, _, _, rfl, ⟨rfl, rfl⟩, rfl⟩, _, _, rfl, ⟨rfl, rfl⟩, rfl⟩) rfl
  (fun w _ => calls_ruled (toB l) (by rw [toB_size]; have : maxLen = 9223372036854775807 := rfl; omega) _ _ _ rfl rfl w)

end Go.Proofs.YtgmpceijcdimkaaGreatDoor
namespace Go.Proofs.YtgmpceijcdimkaaGreatDoor
open Go Go.Sx

section IdxG
variable {α : Type}

def idxG (p : α → Bool) : List α → Nat → Int
 | [], _ => -1
 | s :: l, i => if p s then (i : Int) else idxG p l (i + 1)

theorem idxG_none {p : α → Bool} : ∀ {l : List α} (i : Nat), (∀ s ∈ l, p s = false) → idxG p l i = -1
 | [], _, _ => rfl
 | s :: l, i, h => by
  have hs : ¬ p s = true := by rw [h s (by simp)]; decide
  rw [idxG, if_neg hs, idxG_none (l := l) (i + 1) (fun x hx => h x (by simp [hx]))]

theorem idxG_some {p : α → Bool} {s : α} {post : List α} (hs : p s = true) : ∀ {pre : List α} (i : Nat), (∀ x ∈ pre, p x = false) → idxG p (pre ++ s :: post) i = ((i + pre.length : Nat) : Int)
 | [], i, _ => by rw [List.nil_append, idxG, if_pos hs]; rfl
 | x :: pre, i, h => by
  have hx : ¬ p x = true := by rw [h x (by simp)]; decide
  rw [List.cons_append, idxG, if_neg hx, idxG_some hs (i + 1) (fun y hy => h y (by simp [hy]))]
  simp only [List.length_cons]; omega

theorem split_firstG (p : α → Bool) : ∀ (l : List α), (∀ s ∈ l, p s = false) ∨ ∃ pre s post, l = pre ++ s :: post ∧ (∀ x ∈ pre, p x = false) ∧ p s = true
 | [] => Or.inl (by simp)
 | x :: l => by
  by_cases hx : p x = true
  ·exact Or.inr ⟨[], x, l, rfl, by simp, hx⟩
  ·have hx : p x = false := by simpa using hx
   rcases split_firstG p l with h | ⟨pre, s, post, rfl, h1, h2⟩
   ·refine Or.inl ?_
    intro s hs; rcases List.mem_cons.1 hs with rfl | hs
    ·exact hx
    ·exact h s hs
   ·refine Or.inr ⟨x :: pre, s, post, rfl, ?_, h2⟩
    intro s hs; rcases List.mem_cons.1 hs with rfl | hs
    ·exact hx
    ·exact h1 s hs

theorem idxG_any (p : α → Bool) (l : List α) : decide (0 ≤ idxG p l 0) = l.any p := by
 rcases split_firstG p l with h | ⟨pre, s, post, rfl, h1, h2⟩
 ·rw [idxG_none 0 h]
  have : l.any p = false := by
   rw [List.any_eq_false]; intro x hx; rw [h x hx]; decide
  rw [this]; rfl
 ·rw [idxG_some h2 0 h1]
  have : (pre ++ s :: post).any p = true := List.any_eq_true.2 ⟨s, by simp, h2⟩
  rw [this]; exact decide_eq_true (by omega)

def leftG (p : α → Bool) (l : List α) : List α := l.filter fun s => !p s

theorem leftG_succ {p : α → Bool} {l : List α} {j : Nat} {s : α} (h : l[j]? = some s) : leftG p (l.take (j + 1)) = leftG p (l.take j) ++ (if p s then [] else [s]) := by
 unfold leftG
 rw [List.take_add_one, h, List.filter_append]
 by_cases hp : p s = true
 ·simp [hp]
 ·simp [hp]

theorem set_atG {α : Type} (a : List α) (x : α) (b : List α) (y : α) (n : Nat) (h : a.length = n) : (a ++ x :: b).set n y = a ++ y :: b := by
 subst h
 rw [List.set_append_right _ _ (Nat.le_refl _), Nat.sub_self]
 rfl

theorem get_farG {a l : List α} {j : Nat} {s : α} (h : l[j]? = some s) (ha : a.length = j) : (a ++ l.drop j)[j]? = some s := by
 rw [List.getElem?_append_right (by omega), ha, Nat.sub_self, drop_get h]
 rfl
end IdxG

end Go.Proofs.YtgmpceijcdimkaaGreatDoor
namespace Go.Proofs.YtgmpceijcdimkaaGreatDoor
open Go Go.Sx

theorem f_IdxO_N (g : Nat)  (p : Num → Bool) (l : List Num) (hn : l.length ≤ 1000000) (hg : ∀ s ∈ l, Meets Tryz.prog E0 g ([(.ag [Bo (s).1, I (s).2])] ++ []) [] (Bo (p s)) []) :
  Meets Tryz.prog E0 n_slices_IndexFunc_Sapi_Num_api_Num [.own 0 2 0 l.length true, .fn g [] []] [(0, .row 2 true (l.map numT))] (I (idxG p l 0)) [(0, .row 2 true (l.map numT))] := by
 generalize hout : idxG p l 0 = out
 refine m_slices_IndexFunc_Sapi_Num_api_Num (by simp) (shut_of (by simp [idsL, AV.ids, keysOf]) (by simp [Ob.live, Ob.ids, keysOf, idsL, AV.ids])) (shut_of (by simp [idsL, AV.ids, keysOf]) (by simp [Ob.live, Ob.ids, keysOf, idsL, AV.ids])) (by simp [keysOf]) (by simp [keysOf]) ?_
 simp only [go_sem, s_slices_IndexFunc_Sapi_Num_api_Num]
 refine W_loop (fun i : Nat => l.length - i) (fun i => i ≤ l.length ∧ idxG p (l.drop i) i = out)
  (fun i => [(0, .own 0 2 0 l.length true), (1, .fn g [] []), (7, I l.length), (8, I i)])
  (fun i => [(0, .row 2 true (l.map numT))]) 0 ⟨Nat.zero_le _, by simpa using hout⟩ (sR [] []) ?_
 rintro i ⟨hi, hr⟩
 by_cases hil : i < l.length
 ·have d0 : decide (i < l.length) = true := decide_eq_true hil
  obtain ⟨s, hs⟩ := get_of_lt hil
  have ei : IntKind.i64.wrap ((i : Int) + 1) = ((i + 1 : Nat) : Int) := by rw [wrap_i64_of (by omega) (by omega)]; omega
  have ib : (i : Int) < (l.length : Int) := by omega
  have hgr : (l.map numT)[i]? = some [.v (.bool (s).1), .v (.int .i64 (s).2)] := by rw [List.getElem?_map, hs]; rfl
  have hc := hg s (List.mem_of_getElem? hs)
  rw [drop_get hs] at hr
  simp only [idxG] at hr
  simp only [go_sem, d0, hgr, ib]
  refine Cl_plain (hc) ?_
  by_cases hp : p s = true
  ·rw [if_pos hp] at hr
   rw [hp]
   simp only [go_sem]
   refine wO [] [] ?_
   simp only [go_sem, r_slices_IndexFunc_Sapi_Num_api_Num, exists_eq_left', Option.some.injEq]
   simp [wkV, wkL, slTrees, AV.asOwn, rowPart, stoOf, AV.isNil, shA, rowsT, cellsT, cellT, hr]
  ·rw [if_neg hp] at hr
   rw [show p s = false from by simpa using hp]
   simp only [go_sem, ei]
   exact rd_of (i + 1) (by first | omega | (simp only; omega)) ⟨by first | omega | (simp only; omega), hr⟩ (sR [] [])
 ·obtain rfl : i = l.length := by omega
  have d0 : decide (l.length < l.length) = false := decide_eq_false (by omega)
  rw [List.drop_length] at hr
  simp only [idxG] at hr
  simp only [go_sem, d0]
  refine wO [] [] ?_
  simp only [go_sem, r_slices_IndexFunc_Sapi_Num_api_Num, exists_eq_left', Option.some.injEq]
  simp [wkV, wkL, slTrees, AV.asOwn, rowPart, stoOf, AV.isNil, shA, rowsT, cellsT, cellT, hr]

theorem f_DelO_N (g : Nat)  (p : Num → Bool) (l : List Num) (hn : l.length ≤ 100000) (hg : ∀ s ∈ l, Meets Tryz.prog E0 g ([(.ag [Bo (s).1, I (s).2])] ++ []) [] (Bo (p s)) []) :
  Meets Tryz.prog E0 n_slices_DeleteFunc_Sapi_Num_api_Num [.own 0 2 0 l.length true, .fn g [] []] [(0, .row 2 true (l.map numT))] (.own 0 2 0 (leftG p l).length true) [(0, .row 2 true ((leftG p l).map numT ++ List.replicate (l.length - (leftG p l).length) [T.v (.bool false), T.v (.int .i64 0)]))] := by
 have bI := f_IdxO_N g  p l (by omega) hg
 refine m_slices_DeleteFunc_Sapi_Num_api_Num (by simp) (shut_of (by simp [idsL, AV.ids, keysOf]) (by simp [Ob.live, Ob.ids, keysOf, idsL, AV.ids])) (shut_of (by simp [idsL, AV.ids, keysOf]) (by simp [Ob.live, Ob.ids, keysOf, idsL, AV.ids])) (by simp [keysOf]) (by simp [keysOf]) ?_
 rcases split_firstG p l with hno | ⟨pre, s0, post, hl, hpre, hs0⟩
 ·rw [idxG_none 0 hno] at bI
  have hle : leftG p l = l := List.filter_eq_self.2 (fun s hs => by simp [hno s hs])
  rw [hle, Nat.sub_self]
  simp only [go_sem, s_slices_DeleteFunc_Sapi_Num_api_Num]
  refine oB (bI) ?_
  have d1 : decide ((-1 : Int) = -1) = true := rfl
  simp only [go_sem, d1]
  refine wO [] [] ?_
  simp only [go_sem, r_slices_DeleteFunc_Sapi_Num_api_Num, exists_eq_left', Option.some.injEq]
  simp [wkV, wkL, slTrees, AV.asOwn, rowPart, stoOf, AV.isNil, shA, rowsT, cellsT, cellT, ren]
 ·have hidx : idxG p l 0 = (pre.length : Int) := by rw [hl, idxG_some hs0 0 hpre, Nat.zero_add]
  rw [hidx] at bI
  have hll : pre.length + (post.length + 1) = l.length := by rw [hl]; simp
  have d1 : decide ((pre.length : Int) = -1) = false := decide_eq_false (by omega)
  have e1 : IntKind.i64.wrap ((pre.length : Int) + 1) = ((pre.length + 1 : Nat) : Int) := by rw [wrap_i64_of (by omega) (by omega)]; omega
  have htk : l.take (pre.length + 1) = pre ++ [s0] := by
   rw [hl, List.take_append, List.take_of_length_le (by omega), show pre.length + 1 - pre.length = 1 by omega]; rfl
  have hlp : leftG p (l.take (pre.length + 1)) = pre := by
   rw [htk]; unfold leftG
   rw [List.filter_append, List.filter_eq_self.2 (fun s hs => by simp [hpre s hs])]
   simp [hs0]
  have hdr : l.drop (pre.length + 1) = post := by rw [hl]; simp
  simp only [go_sem, s_slices_DeleteFunc_Sapi_Num_api_Num]
  refine oB (bI) ?_
  simp only [go_sem, d1, e1]
  refine W_loop (fun x : Nat × List Num => l.length - x.1) (fun x => x.1 ≤ l.length ∧ x.2 ≠ [] ∧ (leftG p (l.take x.1) ++ x.2).length = x.1)
   (fun x => [(0, .own 0 2 0 l.length true), (1, .fn g [] []), (5, I (leftG p (l.take x.1)).length), (6, I x.1)])
   (fun x => [(0, .row 2 true (((leftG p (l.take x.1) ++ x.2) ++ l.drop x.1).map numT))])
   (pre.length + 1, [s0]) ⟨by omega, by simp, by rw [hlp]; simp⟩ ?_ ?_
  ·simp only [hlp, hdr]
   rw [show (pre ++ [s0]) ++ post = l by rw [hl]; simp]
   exact (sR [] [])
  rintro ⟨j, st⟩ ⟨hj, hst, hjl⟩
  simp only at hj hst hjl
  by_cases hjlt : j < l.length
  ·have d2 : decide (j < l.length) = true := decide_eq_true hjlt
   obtain ⟨s, hs⟩ := get_of_lt hjlt
   have hc := hg s (List.mem_of_getElem? hs)
   have ei : IntKind.i64.wrap ((j : Int) + 1) = ((j + 1 : Nat) : Int) := by rw [wrap_i64_of (by omega) (by omega)]; omega
   have ib : (j : Int) < (l.length : Int) := by omega
   have hget := get_farG hs hjl
   have hsucc := leftG_succ (p := p) hs
   have hdj := drop_get hs
   generalize hK : leftG p (l.take j) = K at *
   have hgr : ((K ++ st ++ l.drop j).map numT)[j]? = some [.v (.bool (s).1), .v (.int .i64 (s).2)] := by rw [List.getElem?_map, hget]; rfl
   simp only [go_sem, d2, hgr, ib]
   refine Cl_plain (hc) ?_
   by_cases hp : p s = true
   ·rw [if_pos hp, List.append_nil] at hsucc
    rw [hp]
    simp only [go_sem, ei]
    refine rd_of (j + 1, st ++ [s]) (by simp only; omega) ⟨by simp only; omega, by simp, by simp only [hsucc]; simp at hjl ⊢; omega⟩ ?_
    simp only [hsucc]
    rw [show (K ++ st) ++ l.drop j = (K ++ (st ++ [s])) ++ l.drop (j + 1) by rw [hdj]; simp]
    exact (sR [] [])
   ·rw [if_neg hp] at hsucc
    rw [show p s = false from by simpa using hp]
    obtain ⟨x, st', rfl⟩ : ∃ x st', st = x :: st' := by cases st with | nil => exact absurd rfl hst | cons x st' => exact ⟨x, st', rfl⟩
    have ib2 : (K.length : Int) < (l.length : Int) := by simp at hjl; omega
    have e2 : IntKind.i64.wrap ((K.length : Int) + 1) = ((K.length + 1 : Nat) : Int) := by rw [wrap_i64_of (by simp at hjl; omega) (by simp at hjl; omega)]; omega
    have hgx : ((K ++ x :: st' ++ l.drop j).map numT)[K.length]? = some [.v (.bool (x).1), .v (.int .i64 (x).2)] := by
     rw [List.getElem?_map, List.append_assoc, List.getElem?_append_right (Nat.le_refl _), Nat.sub_self]; rfl
    have hset : ((K ++ x :: st' ++ l.drop j).map numT).set K.length [.v (.bool (s).1), .v (.int .i64 (s).2)] = (((K ++ [s]) ++ (st' ++ [s])) ++ l.drop (j + 1)).map numT := by
     rw [show [T.v (.bool (s).1), T.v (.int .i64 (s).2)] = numT s from rfl, ← List.map_set, List.append_assoc, List.cons_append, set_atG K x (st' ++ l.drop j) s K.length rfl, hdj]
     simp
    simp only [go_sem, hgx, ib2, hset, e2, ei]
    refine rd_of (j + 1, st' ++ [s]) (by simp only; omega) ⟨by simp only; omega, by simp, by simp only [hsucc]; simp at hjl ⊢; omega⟩ ?_
    simp only [hsucc, List.length_append, List.length_singleton]
    exact (sR [] [])
  ·obtain rfl : j = l.length := by omega
   have d2 : decide (l.length < l.length) = false := decide_eq_false (by omega)
   rw [List.take_length] at hjl
   simp only [List.take_length, List.drop_length, List.append_nil]
   have hKl : (leftG p l).length ≤ l.length := by rw [List.length_append] at hjl; omega
   generalize hK : leftG p l = K at *
   have hk1 : (0 : Int) ≤ (K.length : Int) := by omega
   have hk2 : (K.length : Int) ≤ (l.length : Int) := by omega
   have eN : ((l.length : Int) - (K.length : Int)).toNat = l.length - K.length := by omega
   have hlen : ((K ++ st).map numT).length = l.length := by simpa using hjl
   have hle2 : K.length + (l.length - K.length) ≤ l.length := by omega
   have hfin : List.take K.length ((K ++ st).map numT) ++ List.replicate (l.length - K.length) [T.v (.bool false), T.v (.int .i64 0)] ++ List.drop (K.length + (l.length - K.length)) ((K ++ st).map numT) = K.map numT ++ List.replicate (l.length - K.length) [T.v (.bool false), T.v (.int .i64 0)] := by
    rw [List.drop_eq_nil_of_le (by rw [hlen]; omega), List.map_append, List.take_append_of_le_length (by simp), List.take_of_length_le (by simp), List.append_nil]
   simp only [go_sem, d2, hk1, hk2, eN, hlen, hle2, hfin]
   refine wO [] [] ?_
   simp only [go_sem, r_slices_DeleteFunc_Sapi_Num_api_Num, exists_eq_left', Option.some.injEq]
   simp [wkV, wkL, slTrees, AV.asOwn, rowPart, stoOf, AV.isNil, shA, rowsT, cellsT, cellT, ren]

end Go.Proofs.YtgmpceijcdimkaaGreatDoor
namespace Go.Proofs.YtgmpceijcdimkaaGreatDoor
open Go Go.Sx

theorem f_IdxT_N (g : Nat) (p : Num → Bool) (l : List Num) (hn : l.length ≤ 1000000000000) (hg : ∀ s ∈ l, Meets Tryz.prog E0 g [(.ag [Bo (s).1, I (s).2])] [] (Bo (p s)) []) :
  Meets Tryz.prog E0 n_slices_IndexFunc_Sapi_Num_api_Num [.t (.sl 2 (l.map numT)), .fn g [] []] [] (I (idxG p l 0)) [] := by
 generalize hout : idxG p l 0 = out
 refine st0 m_slices_IndexFunc_Sapi_Num_api_Num ?_
 have hlen : (l.map numT).length = l.length := by simp
 simp only [go_sem, s_slices_IndexFunc_Sapi_Num_api_Num, hlen]
 refine W_loop (fun i : Nat => l.length - i) (fun i => i ≤ l.length ∧ idxG p (l.drop i) i = out)
  (fun i => [(0, .t (.sl 2 (l.map numT))), (1, .fn g [] []), (7, I l.length), (8, I i)])
  (fun i => []) 0 ⟨Nat.zero_le _, by simpa using hout⟩ (sR [] []) ?_
 rintro i ⟨hi, hr⟩
 by_cases hil : i < l.length
 ·have d0 : decide (i < l.length) = true := decide_eq_true hil
  obtain ⟨s, hs⟩ := get_of_lt hil
  have ei : IntKind.i64.wrap ((i : Int) + 1) = ((i + 1 : Nat) : Int) := by rw [wrap_i64_of (by omega) (by omega)]; omega
  have hgr : (l.map numT)[i]? = some [.v (.bool (s).1), .v (.int .i64 (s).2)] := by rw [List.getElem?_map, hs]; rfl
  have hc := hg s (List.mem_of_getElem? hs)
  rw [drop_get hs] at hr
  simp only [idxG] at hr
  simp only [go_sem, d0, hgr]
  refine Cl_plain hc ?_
  by_cases hp : p s = true
  ·rw [if_pos hp] at hr
   rw [hp, ← hr]
   simp only [go_sem]
   refine wE ?_
   simp only [go_sem, r_slices_IndexFunc_Sapi_Num_api_Num]
  ·rw [if_neg hp] at hr
   rw [show p s = false from by simpa using hp]
   simp only [go_sem, ei]
   exact rd_of (i + 1) (by first | omega | (simp only; omega)) ⟨by first | omega | (simp only; omega), hr⟩ (sR [] [])
 ·obtain rfl : i = l.length := by omega
  have d0 : decide (l.length < l.length) = false := decide_eq_false (by omega)
  rw [List.drop_length] at hr
  simp only [idxG] at hr
  rw [← hr]
  simp only [go_sem, d0]
  refine wE ?_
  simp only [go_sem, r_slices_IndexFunc_Sapi_Num_api_Num]

theorem f_ConT_N (g : Nat) (p : Num → Bool) (l : List Num) (hn : l.length ≤ 1000000000000) (hg : ∀ s ∈ l, Meets Tryz.prog E0 g [(.ag [Bo (s).1, I (s).2])] [] (Bo (p s)) []) :
  Meets Tryz.prog E0 n_slices_ContainsFunc_Sapi_Num_api_Num [.t (.sl 2 (l.map numT)), .fn g [] []] [] (Bo (l.any p)) [] := by
 refine st0 m_slices_ContainsFunc_Sapi_Num_api_Num ?_
 have e := idxG_any p l
 simp only [go_sem, s_slices_ContainsFunc_Sapi_Num_api_Num]
 refine Cl_plain (f_IdxT_N g p l hn hg) ?_
 simp only [go_sem, e]
 refine wE ?_
 simp only [go_sem, r_slices_ContainsFunc_Sapi_Num_api_Num]

end Go.Proofs.YtgmpceijcdimkaaGreatDoor
namespace Go.Proofs.YtgmpceijcdimkaaGreatDoor
open Go Go.Sx

/-- May a number be? -/
def numB (n : Num) : Bool := if n.1 then decide (n.2 = 0) else decide (-9223372036854775808 < n.2)

theorem f_series_unknown (n : Num) (h : -9223372036854775808 ≤ n.2) : Meets Tryz.prog E0 n_series_unknown [.ag [Bo n.1, I n.2]] [] (Bo (!okN n.1 n.2)) [] := by
 refine st0 m_series_unknown ?_
 have hR := f_fixed_Right n.1 n.2 h
 unfold okN
 cases h1 : n.1
 ·rw [h1, if_neg (by decide)] at hR
  simp only [go_sem, s_series_unknown]
  refine Cl_plain hR ?_
  simp only [go_sem]
  refine wE ?_
  simp only [go_sem, r_series_unknown]
 ·simp only [go_sem, s_series_unknown]
  refine wE ?_
  simp only [go_sem, r_series_unknown]

theorem f_choose_unknown (n : Num) (h : -9223372036854775808 ≤ n.2) : Meets Tryz.prog E0 n_choose_unknown [.ag [Bo n.1, I n.2]] [] (Bo (!okN n.1 n.2)) [] := by
 refine st0 m_choose_unknown ?_
 have hR := f_fixed_Right n.1 n.2 h
 unfold okN
 cases h1 : n.1
 ·rw [h1, if_neg (by decide)] at hR
  simp only [go_sem, s_choose_unknown]
  refine Cl_plain hR ?_
  simp only [go_sem]
  refine wE ?_
  simp only [go_sem, r_choose_unknown]
 ·simp only [go_sem, s_choose_unknown]
  refine wE ?_
  simp only [go_sem, r_choose_unknown]

theorem f_CloneN_e (c : Option Addr) (n : Nat) : Meets Tryz.prog E0 n_slices_Clone_Sapi_Num_api_Num [.t (.v (.slice c 0 n))] [] (.t (.sl 2 [])) [] := by
 refine st0 m_slices_Clone_Sapi_Num_api_Num ?_
 cases c with
 | none =>
  simp only [go_sem, s_slices_Clone_Sapi_Num_api_Num, Option.isNone_none]
  refine wS [] ?_
  simp only [go_sem, r_slices_Clone_Sapi_Num_api_Num, exists_eq_left', Option.some.injEq]
  simp [wkV, wkL, slTrees, AV.asOwn, rowPart, stoOf, AV.isNil, shA, rowsT, cellsT, cellT]
 | some c =>
  simp only [go_sem, s_slices_Clone_Sapi_Num_api_Num, Option.isNone_some, show 0 * 16 ≤ 2 ^ 47 from by decide, show 0 < 2 ^ 47 from by decide]
  refine wS [106] ?_
  simp only [go_sem, r_slices_Clone_Sapi_Num_api_Num, exists_eq_left', Option.some.injEq]
  simp [wkV, wkL, slTrees, AV.asOwn, rowPart, stoOf, AV.isNil, shA, rowsT, cellsT, cellT]

theorem f_CloneN_nil : Meets Tryz.prog E0 n_slices_Clone_Sapi_Num_api_Num [.t (.sl 2 [])] [] (.t (.sl 2 [])) [] :=
 Meets.of_empty (xs := []) (ys := []) f_CloneN_e

theorem f_CloneN_own (id : Nat) (e : List T) (es : List (List T)) (hl : es.length ≤ 1000000000) : Meets Tryz.prog E0 n_slices_Clone_Sapi_Num_api_Num [.t (.sl 2 (e :: es))] [] (.own id 2 0 (es.length + 1) true) [(id, .row 2 true (e :: es))] := by
 have h0 : Meets Tryz.prog E0 n_slices_Clone_Sapi_Num_api_Num [.t (.sl 2 (e :: es))] [] (.own 0 2 0 (es.length + 1) true) [(0, .row 2 true (e :: es))] := by
  have h1 : (es.length + 1) * 16 ≤ 2 ^ 47 := by omega
  have h2 : es.length + 1 < 2 ^ 47 := by omega
  refine m_slices_Clone_Sapi_Num_api_Num (by simp) (shut_of (by simp [idsL, AV.ids, keysOf]) (by simp [Ob.live, Ob.ids, keysOf, idsL, AV.ids])) (shut_of (by simp [idsL, AV.ids, keysOf]) (by simp [Ob.live, Ob.ids, keysOf, idsL, AV.ids])) (by simp [keysOf]) (by simp [keysOf]) ?_
  simp only [go_sem, s_slices_Clone_Sapi_Num_api_Num, h1, h2]
  refine wO [(0, 106)] [] ?_
  simp only [go_sem, r_slices_Clone_Sapi_Num_api_Num, exists_eq_left', Option.some.injEq]
  simp [wkV, wkL, slTrees, AV.asOwn, rowPart, stoOf, AV.isNil, shA, rowsT, cellsT, cellT, ren]
 have := h0.ren (fun _ => id) (by simp [keysOf])
 simpa [renL, renA, renS, renO] using this

theorem f_DelN_nil (g : Nat) : Meets Tryz.prog E0 n_slices_DeleteFunc_Sapi_Num_api_Num [.t (.sl 2 []), .fn g [] []] [] (.t (.sl 2 [])) [] := by
 refine st0 m_slices_DeleteFunc_Sapi_Num_api_Num ?_
 have h := f_IdxT_N g (fun _ => false) [] (by decide) (by simp)
 have d1 : decide ((-1 : Int) = -1) = true := rfl
 have e : idxG (fun _ : Num => false) [] 0 = -1 := rfl
 rw [e] at h
 simp only [go_sem, s_slices_DeleteFunc_Sapi_Num_api_Num]
 refine Cl_plain h ?_
 simp only [go_sem, d1]
 refine wE ?_
 simp only [go_sem, r_slices_DeleteFunc_Sapi_Num_api_Num]

theorem left_ok (l : List Num) : leftG (fun n : Num => !okN n.1 n.2) l = l.filter fun n => okN n.1 n.2 := by
 unfold leftG; congr 1; funext n; rw [Bool.not_not]

theorem f_series_known (l : List Num) (hl : l.length ≤ 100000) (h : ∀ n ∈ l, inN n) : Meets Tryz.prog E0 n_series_known [numL l] [] (numL (l.filter fun n => okN n.1 n.2)) [] := by
 refine st0 m_series_known ?_
 cases l with
 | nil =>
  simp only [go_sem, s_series_known]
  refine Cl_plain f_CloneN_nil ?_
  simp only [go_sem]
  refine Cl_plain (f_DelN_nil n_series_unknown) ?_
  simp only [go_sem]
  refine wE ?_
  simp only [go_sem, r_series_known]
  first | done | rfl
 | cons a l =>
  have hc := f_CloneN_own 700 (numT a) (l.map numT) (by simp at hl ⊢; omega)
  have hd := (f_DelO_N n_series_unknown (fun n => !okN n.1 n.2) (a :: l) hl (fun s hs => f_series_unknown s (h s hs).1)).ren (fun _ => 700) (by simp [keysOf])
  simp only [renL, renA, renS, renO] at hd
  rw [List.length_map] at hc
  rw [left_ok] at hd
  have hle : ((a :: l).filter fun n => okN n.1 n.2).length ≤ l.length + 1 := List.length_filter_le _ _
  simp only [List.map_cons, List.length_cons] at hd ⊢
  generalize (a :: l).filter (fun n => okN n.1 n.2) = k at *
  simp only [go_sem, s_series_known]
  refine Cl_new hc (by simp [keysOf, stoOf]) (by simp [keysOf]) ?_
  simp only [go_sem]
  refine oB (hd) ?_
  simp only [go_sem]
  refine wS [700] ?_
  simp only [go_sem, r_series_known, exists_eq_left', Option.some.injEq]
  simp [wkV, wkL, slTrees, AV.asOwn, rowPart, stoOf, AV.isNil, shA, rowsT, cellsT, cellT]

theorem filt_kv (l : List Num) : (l.filter fun n => okN n.1 n.2) = (kvM l).map fun v => (false, v) := by
 unfold kvM
 rw [List.map_map]
 induction l with
 | nil => rfl
 | cons n l ih =>
  by_cases h : okN n.1 n.2 = true
  ·rw [List.filter_cons_of_pos (by exact h), List.map_cons, ← ih]
   obtain ⟨a, b⟩ := n
   obtain ⟨_, h2, _⟩ := okN_t h
   simp only at h2
   subst h2
   rfl
  ·rw [List.filter_cons_of_neg (by simpa using h)]
   exact ih

def kL (k : List Int) : AV := .t (.sl 2 (k.map fun v => [.v (.bool false), .v (.int .i64 v)]))

theorem kv_L (l : List Num) : numL (l.filter fun n => okN n.1 n.2) = kL (kvM l) := by
 rw [filt_kv]; unfold kL; rw [numL, List.map_map]; rfl

theorem f_series_gather (g : Nat) (two : Option Int → Option Int → Option Int) (hg : ∀ a y, Rt a → -9223372036854775808 < y → y < 9223372036854775808 → Meets Tryz.prog E0 g [NO a, NV false y] [] (NO (two a (some y))) []) (h2 : ∀ a b, Rt a → Rt b → Rt (two a b))
  (x : Int) (k : List Int) (hk : ∀ y ∈ x :: k, -9223372036854775808 < y ∧ y < 9223372036854775808) (hl : k.length ≤ 100000) : Meets Tryz.prog E0 n_series_gather [kL (x :: k), .fn g [] []] [] (NO (gatM two (x :: k))) [] := by
 refine st0 m_series_gather ?_
 unfold kL gatM
 have c1 : ((1 : Int) ≤ ((k.length + 1 : Nat) : Int)) = True := eq_true (by omega)
 have hz : (k.map fun v => [T.v (.bool false), .v (.int .i64 v)]).length = k.length := by simp
 have hn1 : (((k.length + 1 : Nat) : Int) - 1).toNat = k.length := by omega
 have htk : List.take k.length (k.map fun v => [T.v (.bool false), .v (.int .i64 v)]) = k.map fun v => [T.v (.bool false), .v (.int .i64 v)] := List.take_of_length_le (by simp)
 simp only [go_sem, s_series_gather, hz, c1, hn1, htk]
 refine W_loop (fun j : Nat => k.length - j) (fun j => j ≤ k.length)
  (fun j => [(1, .fn g [] []), (4, .ptr 100 0), (5, .ptr 104 0), (12, .t (.sl 2 (k.map fun v => [.v (.bool false), .v (.int .i64 v)]))), (13, I k.length), (14, I j)])
  (fun j => [(104, .box [Bo (foldO two (some x) (k.take j)).isNone, I ((foldO two (some x) (k.take j)).getD 0)]), (100, .box [Bo false, I 0])]) 0 (Nat.zero_le _) ?_ ?_
 ·simp only [List.take_zero, show foldO two (some x) [] = some x from rfl, Option.isNone_some, Option.getD_some]
  exact (sR [] [])
 intro j hj
 have hrt : Rt (foldO two (some x) (k.take j)) := rt_fold h2 _ _ (rt_some (hk x (by simp))) (fun y hy => hk y (List.mem_cons_of_mem _ (List.mem_of_mem_take hy)))
 by_cases hjl : j < k.length
 ·have d0 : decide (j < k.length) = true := decide_eq_true hjl
  obtain ⟨y, hy⟩ := get_of_lt hjl
  have hyk := hk y (List.mem_cons_of_mem _ (List.mem_of_getElem? hy))
  have hgy : (k.map fun v => [T.v (.bool false), T.v (.int .i64 v)])[j]? = some [.v (.bool false), .v (.int .i64 y)] := by rw [List.getElem?_map, hy]; rfl
  have ej : IntKind.i64.wrap ((j : Int) + 1) = ((j + 1 : Nat) : Int) := by rw [wrap_i64_of (by omega) (by omega)]; omega
  have hs : foldO two (some x) (k.take (j + 1)) = two (foldO two (some x) (k.take j)) (some y) := by
   rw [List.take_add_one, hy]; exact fold_snoc two (some x) _ y
  have hc := hg (foldO two (some x) (k.take j)) y hrt hyk.1 hyk.2
  simp only [go_sem, d0, hgy]
  refine Cl_plain hc ?_
  simp only [go_sem, ej]
  refine rd_of (j + 1) (by first | omega | (simp only; omega)) hjl ?_
  simp only [hs]
  exact (sR [] [])
 ·obtain rfl : j = k.length := by omega
  have d0 : decide (k.length < k.length) = false := decide_eq_false (by omega)
  rw [List.take_length]
  simp only [go_sem, d0]
  refine wE ?_
  simp only [go_sem, r_series_gather]

theorem g_add (a : Option Int) (y : Int) (ha : Rt a) (h1 : -9223372036854775808 < y) (h2 : y < 9223372036854775808) : Meets Tryz.prog E0 n_fixed_Add [NO a, NV false y] [] (NO (addM a (some y))) [] := by
 have := f_fixed_Add a.isNone false (a.getD 0) y ha.lo ha.hi (by omega) h2
 rw [ha.val, val_in h1] at this
 exact this
theorem g_less (a : Option Int) (y : Int) (ha : Rt a) (h1 : -9223372036854775808 < y) (h2 : y < 9223372036854775808) : Meets Tryz.prog E0 n_fixed_Less [NO a, NV false y] [] (NO (lessM a (some y))) [] := by
 have := f_fixed_Less a.isNone false (a.getD 0) y
 rw [ha.val, val_in h1] at this
 exact this
theorem g_more (a : Option Int) (y : Int) (ha : Rt a) (h1 : -9223372036854775808 < y) (h2 : y < 9223372036854775808) : Meets Tryz.prog E0 n_fixed_More [NO a, NV false y] [] (NO (moreM a (some y))) [] := by
 have := f_fixed_More a.isNone false (a.getD 0) y
 rw [ha.val, val_in h1] at this
 exact this

theorem f_series_Reckon (w : Int) (l : List Num) (hl : l.length ≤ 100000) (h : ∀ n ∈ l, inN n) : Meets Tryz.prog E0 n_series_Reckon [I w, numL l] [] (NO (reckM w l)) [] := by
 refine st0 m_series_Reckon ?_
 have hK := f_series_known l hl h
 have hki := kv_in h
 have hkl : (kvM l).length ≤ l.length := by unfold kvM; rw [List.length_map]; exact List.length_filter_le _ _
 rw [kv_L] at hK
 unfold reckM
 generalize kvM l = k at *
 simp only [go_sem, s_series_Reckon]
 refine Cl_plain hK ?_
 cases k with
 | nil =>
  have d0 : decide (((0 : Nat) : Int) = 0) = true := rfl
  unfold kL reckK
  rw [if_pos rfl]
  simp only [go_sem, d0]
  refine wE ?_
  simp only [go_sem, r_series_Reckon]
  first | done | rfl
 | cons x k =>
  have hzk : (k.map fun v => [T.v (.bool false), T.v (.int .i64 v)]).length = k.length := by simp
  have d0 : decide (((k.length + 1 : Nat) : Int) = 0) = false := decide_eq_false (by omega)
  have hlk : k.length ≤ 100000 := by simp at hkl; omega
  have gA := f_series_gather n_fixed_Add addM g_add (fun a b _ _ => rt_add a b) x k hki hlk
  have gL := f_series_gather n_fixed_Less lessM g_less (fun a b ha hb => rt_less ha hb) x k hki hlk
  have gM := f_series_gather n_fixed_More moreM g_more (fun a b ha hb => rt_more ha hb) x k hki hlk
  have rA := rt_gat (fun a b _ _ => rt_add a b) (x :: k) hki
  unfold reckK
  rw [if_neg (by simp)]
  unfold kL at gA gL gM ⊢
  by_cases w1 : w = 1
  ·have d1 : decide (w = 1) = true := decide_eq_true w1
   rw [if_pos w1]
   have hI := f_fixed_Int ((k.length + 1 : Nat) : Int) (by omega) (by omega)
   have hD := f_fixed_Div (gatM addM (x :: k)).isNone (tellM (((k.length + 1 : Nat) : Int) * 1000000)).isNone ((gatM addM (x :: k)).getD 0) ((tellM (((k.length + 1 : Nat) : Int) * 1000000)).getD 0) rA.lo rA.hi (rt_tell _).lo (rt_tell _).hi
   rw [rA.val, (rt_tell _).val] at hD
   simp only [go_sem, d0, d1, hzk]
   refine Cl_plain gA ?_
   simp only [go_sem, hzk]
   refine Cl_plain hI ?_
   simp only [go_sem]
   refine Cl_plain hD ?_
   simp only [go_sem]
   refine wE ?_
   simp only [go_sem, r_series_Reckon]
   first | done | rfl
  have d1 : decide (w = 1) = false := decide_eq_false w1
  rw [if_neg w1]
  by_cases w2 : w = 2
  ·have d2 : decide (w = 2) = true := decide_eq_true w2
   rw [if_pos w2]
   simp only [go_sem, d0, d1, d2, hzk]
   refine Cl_plain gA ?_
   simp only [go_sem]
   refine wE ?_
   simp only [go_sem, r_series_Reckon]
  have d2 : decide (w = 2) = false := decide_eq_false w2
  rw [if_neg w2]
  by_cases w3 : w = 3
  ·have d3 : decide (w = 3) = true := decide_eq_true w3
   rw [if_pos w3]
   simp only [go_sem, d0, d1, d2, d3, hzk]
   refine Cl_plain gL ?_
   simp only [go_sem]
   refine wE ?_
   simp only [go_sem, r_series_Reckon]
  have d3 : decide (w = 3) = false := decide_eq_false w3
  rw [if_neg w3]
  by_cases w4 : w = 4
  ·have d4 : decide (w = 4) = true := decide_eq_true w4
   rw [if_pos w4]
   simp only [go_sem, d0, d1, d2, d3, d4, hzk]
   refine Cl_plain gM ?_
   simp only [go_sem]
   refine wE ?_
   simp only [go_sem, r_series_Reckon]
  have d4 : decide (w = 4) = false := decide_eq_false w4
  rw [if_neg w4]
  by_cases w5 : w = 5
  ·have d5 : decide (w = 5) = true := decide_eq_true w5
   rw [if_pos w5]
   have ew : IntKind.i64.wrap (((k.length + 1 : Nat) : Int) - 1) = (k.length : Int) := by rw [wrap_i64_of (by omega) (by omega)]; omega
   obtain ⟨y, hy⟩ := get_of_lt (show k.length < (x :: k).length by simp)
   have hla : (x :: k).getLast? = some y := by rw [List.getLast?_eq_getElem?]; simpa using hy
   have hgy : ((x :: k).map fun v => [T.v (.bool false), T.v (.int .i64 v)])[k.length]? = some [.v (.bool false), .v (.int .i64 y)] := by rw [List.getElem?_map, hy]; rfl
   simp only [List.map_cons] at hgy
   have ib : (k.length : Int) < ((k.length + 1 : Nat) : Int) := by omega
   rw [hla]
   simp only [go_sem, d0, d1, d2, d3, d4, d5, hzk, ew, hgy, ib]
   refine wE ?_
   simp only [go_sem, r_series_Reckon]
   first | done | rfl
  have d5 : decide (w = 5) = false := decide_eq_false w5
  rw [if_neg w5]
  simp only [go_sem, d0, d1, d2, d3, d4, d5, hzk]
  refine wE ?_
  simp only [go_sem, r_series_Reckon]
  first | done | rfl

end Go.Proofs.YtgmpceijcdimkaaGreatDoor
namespace Go.Proofs.YtgmpceijcdimkaaGreatDoor
open Go Go.Sx

theorem f_ref24_known (l : List Num) (hl : l.length ≤ 100000) (h : ∀ n ∈ l, inN n) : Meets Tryz.prog E0 n_ref24_known [numL l] [] (numL (l.filter fun n => okN n.1 n.2)) [] := by
 refine st0 m_ref24_known ?_
 simp only [go_sem, s_ref24_known]
 refine W_loop (fun i : Nat => l.length - i) (fun i => i ≤ l.length)
  (fun i => [(0, numL l), (3, .own 999 2 0 ((l.take i).filter fun n => okN n.1 n.2).length (!((l.take i).filter fun n => okN n.1 n.2).isEmpty)), (4, I i)])
  (fun i => [(999, .row 2 (!((l.take i).filter fun n => okN n.1 n.2).isEmpty) (((l.take i).filter fun n => okN n.1 n.2).map numT))]) 0 (Nat.zero_le _) ?_ ?_
 ·simp only [List.take_zero, List.filter_nil, List.map_nil, List.length_nil, List.isEmpty_nil, Bool.not_true]
  exact (sR [(999, 888)] [])
 intro i hi
 have hlen : (l.map numT).length = l.length := by simp
 have hfl : ((l.take i).filter fun n => okN n.1 n.2).length ≤ i := Nat.le_trans (List.length_filter_le _ _) (by rw [List.length_take]; omega)
 by_cases hil : i < l.length
 ·have d0 : decide (i < l.length) = true := decide_eq_true hil
  obtain ⟨n, hn⟩ := get_of_lt hil
  have hR := f_ref02_Right n.1 n.2 (h n (List.mem_of_getElem? hn)).1
  have hg : (l.map numT)[i]? = some [.v (.bool n.1), .v (.int .i64 n.2)] := by rw [List.getElem?_map, hn]; rfl
  have ei : IntKind.i64.wrap ((i : Int) + 1) = ((i + 1 : Nat) : Int) := by rw [wrap_i64_of (by omega) (by omega)]; omega
  have hs : (l.take (i + 1)).filter (fun n => okN n.1 n.2) = (l.take i).filter (fun n => okN n.1 n.2) ++ if okN n.1 n.2 then [n] else [] := by
   rw [List.take_add_one, hn, List.filter_append]
   by_cases hk : okN n.1 n.2 = true
   ·rw [if_pos hk]; simp [hk]
   ·rw [if_neg hk]; simp [hk]
  generalize hF : (l.take i).filter (fun n => okN n.1 n.2) = F at *
  have skip : okN n.1 n.2 = false → (l.take (i + 1)).filter (fun n => okN n.1 n.2) = F := fun e => by rw [hs, e]; simp
  cases h1 : n.1
  ·rw [h1, if_neg (by decide)] at hR
   cases h2 : decide (-9223372036854775808 < n.2)
   ·rw [h2] at hR
    have e := skip (by unfold okN; rw [h1, h2]; rfl)
    simp only [go_sem, hlen, d0, hg, h1]
    refine Cl_plain hR ?_
    simp only [go_sem, ei]
    refine rd_of (i + 1) (by first | omega | (simp only; omega)) hil ?_
    simp only [e]
    exact (sR [] [])
   ·rw [h2] at hR
    have e : (l.take (i + 1)).filter (fun n => okN n.1 n.2) = F ++ [n] := by rw [hs, if_pos (by unfold okN; rw [h1, h2]; rfl)]
    have b4 : (F.length + 1) * 16 ≤ 2 ^ 47 := by omega
    have b5 : F.length + 1 < 2 ^ 47 := by omega
    have hFl : (F.map numT).length = F.length := by simp
    have em : F.map numT ++ [[.v (.bool false), .v (.int .i64 n.2)]] = (F ++ [n]).map numT := by simp [numT, h1]
    simp only [go_sem, hlen, d0, hg, h1]
    refine Cl_plain hR ?_
    simp only [go_sem, hlen, d0, hg, h1, b4, b5, hFl, em, ei]
    refine rd_of (i + 1) (by first | omega | (simp only; omega)) hil ?_
    simp only [e, List.length_append, List.length_cons, List.length_nil, Nat.zero_add, show (F ++ [n]).isEmpty = false from by simp, Bool.not_false]
    exact (sR [(999, 126)] [])
  ·rw [h1, if_pos rfl] at hR
   have e := skip (by unfold okN; rw [h1]; rfl)
   cases h2 : decide (n.2 = 0)
   ·rw [h2] at hR
    simp only [go_sem, hlen, d0, hg, h1]
    refine Cl_plain hR ?_
    simp only [go_sem, ei]
    refine rd_of (i + 1) (by first | omega | (simp only; omega)) hil ?_
    simp only [e]
    exact (sR [] [])
   ·rw [h2] at hR
    simp only [go_sem, hlen, d0, hg, h1]
    refine Cl_plain hR ?_
    simp only [go_sem, hlen, d0, hg, h1, ei]
    refine rd_of (i + 1) (by first | omega | (simp only; omega)) hil ?_
    simp only [e]
    exact (sR [] [])
 ·obtain rfl : i = l.length := by omega
  have d0 : decide (l.length < l.length) = false := decide_eq_false (by omega)
  simp only [List.take_length] at *
  generalize l.filter (fun n => okN n.1 n.2) = F at *
  simp only [go_sem, hlen, d0]
  cases F with
  | nil =>
   refine wS [] ?_
   simp only [go_sem, r_ref24_known, exists_eq_left', Option.some.injEq]
   simp [wkV, wkL, slTrees, AV.asOwn, rowPart, stoOf, AV.isNil, shA, rowsT, cellsT, cellT]
  | cons a F =>
   refine wS [999] ?_
   simp only [go_sem, r_ref24_known, exists_eq_left', Option.some.injEq]
   simp [wkV, wkL, slTrees, AV.asOwn, rowPart, stoOf, AV.isNil, shA, rowsT, cellsT, cellT, List.take_of_length_le]

theorem r_add (a : Option Int) (y : Int) (ha : Rt a) (h1 : -9223372036854775808 < y) (h2 : y < 9223372036854775808) : Meets Tryz.prog E0 n_ref02_Add [NO a, NV false y] [] (NO (addM a (some y))) [] := by
 have := f_ref02_Add a.isNone false (a.getD 0) y ha.lo ha.hi (by omega) h2
 rw [ha.val, val_in h1] at this
 exact this
theorem r_less (a : Option Int) (y : Int) (ha : Rt a) (h1 : -9223372036854775808 < y) (h2 : y < 9223372036854775808) : Meets Tryz.prog E0 n_ref02_Less [NO a, NV false y] [] (NO (lessM a (some y))) [] := by
 have := f_ref02_Less a.isNone false (a.getD 0) y ha.lo (by omega)
 rw [ha.val, val_in h1] at this
 exact this
theorem r_more (a : Option Int) (y : Int) (ha : Rt a) (h1 : -9223372036854775808 < y) (h2 : y < 9223372036854775808) : Meets Tryz.prog E0 n_ref02_More [NO a, NV false y] [] (NO (moreM a (some y))) [] := by
 have := f_ref02_More a.isNone false (a.getD 0) y ha.lo (by omega)
 rw [ha.val, val_in h1] at this
 exact this

set_option maxHeartbeats 1000000 in
theorem f_ref24_Reckon (w : Int) (l : List Num) (hl : l.length ≤ 100000) (h : ∀ n ∈ l, inN n) : Meets Tryz.prog E0 n_ref24_Reckon [I w, numL l] [] (NO (reckM w l)) [] := by
 refine st0 m_ref24_Reckon ?_
 have hK := f_ref24_known l hl h
 have hki := kv_in h
 have hkl : (kvM l).length ≤ l.length := by unfold kvM; rw [List.length_map]; exact List.length_filter_le _ _
 rw [kv_L] at hK
 unfold reckM
 generalize kvM l = k at *
 simp only [go_sem, s_ref24_Reckon]
 refine Cl_plain hK ?_
 cases k with
 | nil =>
  have d0 : decide (((0 : Nat) : Int) = 0) = true := rfl
  unfold kL reckK
  rw [if_pos rfl]
  simp only [go_sem, d0]
  refine Cl_plain f_ref02_Nothing ?_
  simp only [go_sem]
  refine wE ?_
  simp only [go_sem, r_ref24_Reckon]
  first | done | rfl
 | cons x k =>
  have hzk : (k.map fun v => [T.v (.bool false), T.v (.int .i64 v)]).length = k.length := by simp
  have d0 : decide (((k.length + 1 : Nat) : Int) = 0) = false := decide_eq_false (by omega)
  have hlk : k.length ≤ 100000 := by simp at hkl; omega
  have rA := rt_gat (fun a b _ _ => rt_add a b) (x :: k) hki
  by_cases w0 : w < 1
  ·have d1 : decide (w < 1) = true := decide_eq_true w0
   unfold kL reckK
   rw [if_neg (by simp), if_neg (by omega), if_neg (by omega), if_neg (by omega), if_neg (by omega), if_neg (by omega)]
   simp only [go_sem, d0, d1, hzk]
   refine Cl_plain f_ref02_Nothing ?_
   simp only [go_sem]
   refine wE ?_
   simp only [go_sem, r_ref24_Reckon]
   first | done | rfl
  have d1 : decide (w < 1) = false := decide_eq_false w0
  by_cases w6 : 5 < w
  ·have d2 : decide (5 < w) = true := decide_eq_true w6
   unfold kL reckK
   rw [if_neg (by simp), if_neg (by omega), if_neg (by omega), if_neg (by omega), if_neg (by omega), if_neg (by omega)]
   simp only [go_sem, d0, d1, d2, hzk]
   refine Cl_plain f_ref02_Nothing ?_
   simp only [go_sem]
   refine wE ?_
   simp only [go_sem, r_ref24_Reckon]
   first | done | rfl
  have d2 : decide (5 < w) = false := decide_eq_false w6
  have hx := hki x (by simp)
  have hO := f_ref02_Of 0 (by omega) (by omega)
  rw [val_in (by omega)] at hO
  have i0 : (0 : Int) < ((k.length + 1 : Nat) : Int) := by omega
  unfold kL
  simp only [go_sem, d0, d1, d2, hzk]
  refine Cl_plain hO ?_
  simp only [go_sem, hzk, i0]
  ((try (with_reducible refine rF ?_)); (try simp only [go_sem, hzk, i0]))
  have hfl := fold_less x k
  have hfm := fold_more x k
  have hfa := fold_add hx k
  have hrk := rt_some hx
  generalize hL : x :: k = L at *
  have hLl : L.length = k.length + 1 := by rw [← hL]; rfl
  have eL : ([T.v (.bool false), T.v (.int .i64 x)] :: k.map fun v => [T.v (.bool false), T.v (.int .i64 v)]) = L.map fun v => [T.v (.bool false), T.v (.int .i64 v)] := by rw [← hL]; rfl
  have hzL : (L.map fun v => [T.v (.bool false), T.v (.int .i64 v)]).length = L.length := by simp
  rw [eL]
  rw [show ((k.length + 1 : Nat) : Int) = (L.length : Int) by rw [hLl]] at d0 i0
  have hLb : L.length ≤ 100001 := by omega
  refine W_loop (fun j : Nat => L.length - j) (fun j => j ≤ L.length)
   (fun j => [(0, I w), (4, .ptr 100 0), (5, .t (.sl 2 (L.map fun v => [.v (.bool false), .v (.int .i64 v)]))), (6, .ptr 124 0), (7, .ptr 125 0), (8, .ptr 126 0), (9, I j)])
   (fun j => [(124, .box [Bo (foldO addM (some 0) (L.take j)).isNone, I ((foldO addM (some 0) (L.take j)).getD 0)]), (125, .box [Bo (foldO lessM (some x) (L.take j)).isNone, I ((foldO lessM (some x) (L.take j)).getD 0)]), (126, .box [Bo (foldO moreM (some x) (L.take j)).isNone, I ((foldO moreM (some x) (L.take j)).getD 0)]), (100, .box [Bo false, I 0])]) 0 (Nat.zero_le _) ?_ ?_
  ·simp only [List.take_zero, show ∀ (two : Option Int → Option Int → Option Int) a, foldO two a [] = a from fun _ _ => rfl, Option.isNone_some, Option.getD_some]
   exact (sR [] [])
  intro j hj
  have hin : ∀ y ∈ L.take j, -9223372036854775808 < y ∧ y < 9223372036854775808 := fun y hy => hki y (List.mem_of_mem_take hy)
  have t1 : Rt (foldO addM (some 0) (L.take j)) := rt_fold (fun a b _ _ => rt_add a b) _ _ (rt_some (by omega)) hin
  have t2 : Rt (foldO lessM (some x) (L.take j)) := rt_fold (fun a b ha hb => rt_less ha hb) _ _ hrk hin
  have t3 : Rt (foldO moreM (some x) (L.take j)) := rt_fold (fun a b ha hb => rt_more ha hb) _ _ hrk hin
  by_cases hjl : j < L.length
  ·have d3 : decide (j < L.length) = true := decide_eq_true hjl
   obtain ⟨y, hy⟩ := get_of_lt hjl
   have hyk := hki y (List.mem_of_getElem? hy)
   have hgy : (L.map fun v => [T.v (.bool false), T.v (.int .i64 v)])[j]? = some [.v (.bool false), .v (.int .i64 y)] := by rw [List.getElem?_map, hy]; rfl
   have ej : IntKind.i64.wrap ((j : Int) + 1) = ((j + 1 : Nat) : Int) := by rw [wrap_i64_of (by omega) (by omega)]; omega
   have hs : ∀ two a, foldO two a (L.take (j + 1)) = two (foldO two a (L.take j)) (some y) := by
    intro two a; rw [List.take_add_one, hy]; exact fold_snoc two a _ y
   have q1 := r_add _ y t1 hyk.1 hyk.2
   have q2 := r_less _ y t2 hyk.1 hyk.2
   have q3 := r_more _ y t3 hyk.1 hyk.2
   have n1 := hs addM (some 0)
   have n2 := hs lessM (some x)
   have n3 := hs moreM (some x)
   generalize foldO addM (some 0) (L.take j) = o1 at *
   generalize foldO lessM (some x) (L.take j) = o2 at *
   generalize foldO moreM (some x) (L.take j) = o3 at *
   simp only [go_sem, hzL, d3, hgy]
   refine Cl_plain q1 ?_
   simp only [go_sem, hzL, hgy, d3]
   ((try (with_reducible refine rF ?_)); (try simp only [go_sem, hzL, hgy, d3]))
   refine Cl_plain q2 ?_
   simp only [go_sem, hzL, hgy, d3]
   ((try (with_reducible refine rF ?_)); (try simp only [go_sem, hzL, hgy, d3]))
   refine Cl_plain q3 ?_
   simp only [go_sem, hzL, hgy, d3]
   ((try (with_reducible refine rF ?_)); (try simp only [go_sem, hzL, hgy, d3, ej]))
   refine rd_of (j + 1) (by first | omega | (simp only; omega)) hjl ?_
   simp only [n1, n2, n3]
   exact (sR [] [])
  ·obtain rfl : j = L.length := by omega
   have d3 : decide (L.length < L.length) = false := decide_eq_false (by omega)
   rw [List.take_length] at t1 ⊢
   rw [hfa] at t1
   rw [hfa, hfl, hfm]
   unfold reckK
   rw [if_neg (show ¬ L = [] by rw [← hL]; simp)]
   by_cases w1 : w = 1
   ·have d4 : decide (w = 1) = true := decide_eq_true w1
    rw [if_pos w1]
    have hI := f_ref02_Int (L.length : Int) (by omega) (by omega)
    have hD := f_ref02_Div (gatM addM L).isNone (tellM ((L.length : Int) * 1000000)).isNone ((gatM addM L).getD 0) ((tellM ((L.length : Int) * 1000000)).getD 0) t1.lo t1.hi (rt_tell _).lo (rt_tell _).hi
    rw [t1.val, (rt_tell _).val] at hD
    simp only [go_sem, hzL, d3, d4]
    refine Cl_plain hI ?_
    simp only [go_sem]
    refine Cl_plain hD ?_
    simp only [go_sem]
    ((try (with_reducible refine rF ?_)); (try simp only [go_sem]))
    refine wE ?_
    simp only [go_sem, r_ref24_Reckon]
    first | done | rfl
   have d4 : decide (w = 1) = false := decide_eq_false w1
   rw [if_neg w1]
   by_cases w2 : w = 2
   ·have d5 : decide (w = 2) = true := decide_eq_true w2
    rw [if_pos w2]
    simp only [go_sem, hzL, d3, d4, d5]
    refine wE ?_
    simp only [go_sem, r_ref24_Reckon]
   have d5 : decide (w = 2) = false := decide_eq_false w2
   rw [if_neg w2]
   by_cases w3 : w = 3
   ·have d6 : decide (w = 3) = true := decide_eq_true w3
    rw [if_pos w3]
    simp only [go_sem, hzL, d3, d4, d5, d6]
    refine wE ?_
    simp only [go_sem, r_ref24_Reckon]
   have d6 : decide (w = 3) = false := decide_eq_false w3
   rw [if_neg w3]
   by_cases w4 : w = 4
   ·have d7 : decide (w = 4) = true := decide_eq_true w4
    rw [if_pos w4]
    simp only [go_sem, hzL, d3, d4, d5, d6, d7]
    refine wE ?_
    simp only [go_sem, r_ref24_Reckon]
   have d7 : decide (w = 4) = false := decide_eq_false w4
   rw [if_neg w4, if_pos (show w = 5 by omega)]
   have ew : IntKind.i64.wrap ((L.length : Int) - 1) = (k.length : Int) := by rw [wrap_i64_of (by omega) (by omega)]; omega
   obtain ⟨y, hy⟩ := get_of_lt (show k.length < L.length by omega)
   have hla : L.getLast? = some y := by rw [List.getLast?_eq_getElem?, hLl]; simpa using hy
   have hgy : (L.map fun v => [T.v (.bool false), T.v (.int .i64 v)])[k.length]? = some [.v (.bool false), .v (.int .i64 y)] := by rw [List.getElem?_map, hy]; rfl
   have ib : (k.length : Int) < (L.length : Int) := by omega
   rw [hla]
   simp only [go_sem, hzL, d3, d4, d5, d6, d7, ew, hgy, ib]
   refine wE ?_
   simp only [go_sem, r_ref24_Reckon]
   first | done | rfl

end Go.Proofs.YtgmpceijcdimkaaGreatDoor
namespace Go.Proofs.YtgmpceijcdimkaaGreatDoor
open Go Go.Sx

def takesR (l : List UInt8) : (Int × Int) × (Bool × Bool) :=
 if (l == [115, 111, 114, 116, 66, 121, 78, 97, 109, 101]) = true then ((0, 0), (false, true)) else
 if (l == [115, 111, 114, 116, 66, 121, 84, 111, 116, 97, 108]) = true then ((0, 0), (false, true)) else
 if (l == [115, 111, 114, 116, 66, 121, 77, 97, 120, 105, 109, 97]) = true then ((0, 0), (false, true)) else
 if (l == [115, 111, 114, 116, 66, 121, 77, 105, 110, 105, 109, 97]) = true then ((0, 0), (false, true)) else
 if (l == [103, 114, 111, 117, 112]) = true then ((0, 0), (false, true)) else
 if (l == [108, 105, 109, 105, 116]) = true then ((1, 1), (false, true)) else
 if (l == [104, 105, 103, 104, 101, 115, 116, 65, 118, 101, 114, 97, 103, 101]) = true then ((1, 1), (false, true)) else
 if (l == [104, 105, 103, 104, 101, 115, 116, 77, 97, 120]) = true then ((1, 1), (false, true)) else
 if (l == [104, 105, 103, 104, 101, 115, 116, 67, 117, 114, 114, 101, 110, 116]) = true then ((1, 1), (false, true)) else
 if (l == [108, 111, 119, 101, 115, 116, 65, 118, 101, 114, 97, 103, 101]) = true then ((1, 1), (false, true)) else
 if (l == [108, 111, 119, 101, 115, 116, 67, 117, 114, 114, 101, 110, 116]) = true then ((1, 1), (false, true)) else
 if (l == [97, 118, 101, 114, 97, 103, 101, 65, 98, 111, 118, 101]) = true then ((1, 1), (false, true)) else
 if (l == [109, 97, 120, 105, 109, 117, 109, 65, 98, 111, 118, 101]) = true then ((1, 1), (false, true)) else
 if (l == [109, 105, 110, 105, 109, 117, 109, 65, 98, 111, 118, 101]) = true then ((1, 1), (false, true)) else
 if (l == [99, 117, 114, 114, 101, 110, 116, 65, 98, 111, 118, 101]) = true then ((1, 1), (false, true)) else
 if (l == [97, 118, 101, 114, 97, 103, 101, 66, 101, 108, 111, 119]) = true then ((1, 1), (false, true)) else
 if (l == [109, 97, 120, 105, 109, 117, 109, 66, 101, 108, 111, 119]) = true then ((1, 1), (false, true)) else
 if (l == [109, 105, 110, 105, 109, 117, 109, 66, 101, 108, 111, 119]) = true then ((1, 1), (false, true)) else
 if (l == [99, 117, 114, 114, 101, 110, 116, 66, 101, 108, 111, 119]) = true then ((1, 1), (false, true)) else
 if (l == [103, 114, 101, 112]) = true then ((0, 0), (true, true)) else
 if (l == [101, 120, 99, 108, 117, 100, 101]) = true then ((0, 0), (true, true)) else
 if (l == [97, 108, 105, 97, 115]) = true then ((0, 0), (true, true)) else
 if (l == [97, 108, 105, 97, 115, 66, 121, 78, 111, 100, 101]) = true then ((1, 16), (false, true)) else
 ((0, 0), (false, false))

def wayR (l : List UInt8) : Int :=
 if (l == [104, 105, 103, 104, 101, 115, 116, 65, 118, 101, 114, 97, 103, 101]) = true then 1 else
 if (l == [108, 111, 119, 101, 115, 116, 65, 118, 101, 114, 97, 103, 101]) = true then 1 else
 if (l == [97, 118, 101, 114, 97, 103, 101, 65, 98, 111, 118, 101]) = true then 1 else
 if (l == [97, 118, 101, 114, 97, 103, 101, 66, 101, 108, 111, 119]) = true then 1 else
 if (l == [104, 105, 103, 104, 101, 115, 116, 77, 97, 120]) = true then 4 else
 if (l == [109, 97, 120, 105, 109, 117, 109, 65, 98, 111, 118, 101]) = true then 4 else
 if (l == [109, 97, 120, 105, 109, 117, 109, 66, 101, 108, 111, 119]) = true then 4 else
 if (l == [115, 111, 114, 116, 66, 121, 77, 97, 120, 105, 109, 97]) = true then 4 else
 if (l == [109, 105, 110, 105, 109, 117, 109, 65, 98, 111, 118, 101]) = true then 3 else
 if (l == [109, 105, 110, 105, 109, 117, 109, 66, 101, 108, 111, 119]) = true then 3 else
 if (l == [115, 111, 114, 116, 66, 121, 77, 105, 110, 105, 109, 97]) = true then 3 else
 if (l == [104, 105, 103, 104, 101, 115, 116, 67, 117, 114, 114, 101, 110, 116]) = true then 5 else
 if (l == [108, 111, 119, 101, 115, 116, 67, 117, 114, 114, 101, 110, 116]) = true then 5 else
 if (l == [99, 117, 114, 114, 101, 110, 116, 65, 98, 111, 118, 101]) = true then 5 else
 if (l == [99, 117, 114, 114, 101, 110, 116, 66, 101, 108, 111, 119]) = true then 5 else
 if (l == [115, 111, 114, 116, 66, 121, 84, 111, 116, 97, 108]) = true then 2 else
 0

set_option maxHeartbeats 4000000 in
theorem f_ref27_Measure (l : List UInt8) (s : Ser) (hl : s.2.2.2.length ≤ 100000) (h : inS s) : Meets Tryz.prog E0 n_ref27_Measure [Str (toB l), .ag [Str (toB s.1), I s.2.1, I s.2.2.1, numL s.2.2.2]] [] (NO (reckM (wayR l) s.2.2.2)) [] := by
 refine st0 m_ref27_Measure ?_
 have q : ∀ w, binStr .eql (toB l) (bs w) = some (.bool (l == w)) := fun w => eqT l w
 have hR := fun w => f_ref24_Reckon w s.2.2.2 hl h
 simp only [go_sem, s_ref27_Measure, q]
 cases hb0 : (l == [104, 105, 103, 104, 101, 115, 116, 65, 118, 101, 114, 97, 103, 101])
 case true =>
  rw [show wayR l = 1 from by unfold wayR; rw [if_pos hb0]]
  simp only [go_sem, q]
  refine Cl_plain (hR _) ?_
  simp only [go_sem]
  refine wE ?_
  simp only [go_sem, r_ref27_Measure]
  first | done | rfl
 case false =>
  simp only [go_sem, q]
  cases hb1 : (l == [108, 111, 119, 101, 115, 116, 65, 118, 101, 114, 97, 103, 101])
  case true =>
   rw [show wayR l = 1 from by unfold wayR; rw [if_neg (by rw [hb0]; decide)]; rw [if_pos hb1]]
   simp only [go_sem, q]
   refine Cl_plain (hR _) ?_
   simp only [go_sem]
   refine wE ?_
   simp only [go_sem, r_ref27_Measure]
   first | done | rfl
  case false =>
   simp only [go_sem, q]
   cases hb2 : (l == [97, 118, 101, 114, 97, 103, 101, 65, 98, 111, 118, 101])
   case true =>
    rw [show wayR l = 1 from by unfold wayR; rw [if_neg (by rw [hb0]; decide)]; rw [if_neg (by rw [hb1]; decide)]; rw [if_pos hb2]]
    simp only [go_sem, q]
    refine Cl_plain (hR _) ?_
    simp only [go_sem]
    refine wE ?_
    simp only [go_sem, r_ref27_Measure]
    first | done | rfl
   case false =>
    simp only [go_sem, q]
    cases hb3 : (l == [97, 118, 101, 114, 97, 103, 101, 66, 101, 108, 111, 119])
    case true =>
     rw [show wayR l = 1 from by unfold wayR; rw [if_neg (by rw [hb0]; decide)]; rw [if_neg (by rw [hb1]; decide)]; rw [if_neg (by rw [hb2]; decide)]; rw [if_pos hb3]]
     simp only [go_sem, q]
     refine Cl_plain (hR _) ?_
     simp only [go_sem]
     refine wE ?_
     simp only [go_sem, r_ref27_Measure]
     first | done | rfl
    case false =>
     simp only [go_sem, q]
     cases hb4 : (l == [104, 105, 103, 104, 101, 115, 116, 77, 97, 120])
     case true =>
      rw [show wayR l = 4 from by unfold wayR; rw [if_neg (by rw [hb0]; decide)]; rw [if_neg (by rw [hb1]; decide)]; rw [if_neg (by rw [hb2]; decide)]; rw [if_neg (by rw [hb3]; decide)]; rw [if_pos hb4]]
      simp only [go_sem, q]
      refine Cl_plain (hR _) ?_
      simp only [go_sem]
      refine wE ?_
      simp only [go_sem, r_ref27_Measure]
      first | done | rfl
     case false =>
      simp only [go_sem, q]
      cases hb5 : (l == [109, 97, 120, 105, 109, 117, 109, 65, 98, 111, 118, 101])
      case true =>
       rw [show wayR l = 4 from by unfold wayR; rw [if_neg (by rw [hb0]; decide)]; rw [if_neg (by rw [hb1]; decide)]; rw [if_neg (by rw [hb2]; decide)]; rw [if_neg (by rw [hb3]; decide)]; rw [if_neg (by rw [hb4]; decide)]; rw [if_pos hb5]]
       simp only [go_sem, q]
       refine Cl_plain (hR _) ?_
       simp only [go_sem]
       refine wE ?_
       simp only [go_sem, r_ref27_Measure]
       first | done | rfl
      case false =>
       simp only [go_sem, q]
       cases hb6 : (l == [109, 97, 120, 105, 109, 117, 109, 66, 101, 108, 111, 119])
       case true =>
        rw [show wayR l = 4 from by unfold wayR; rw [if_neg (by rw [hb0]; decide)]; rw [if_neg (by rw [hb1]; decide)]; rw [if_neg (by rw [hb2]; decide)]; rw [if_neg (by rw [hb3]; decide)]; rw [if_neg (by rw [hb4]; decide)]; rw [if_neg (by rw [hb5]; decide)]; rw [if_pos hb6]]
        simp only [go_sem, q]
        refine Cl_plain (hR _) ?_
        simp only [go_sem]
        refine wE ?_
        simp only [go_sem, r_ref27_Measure]
        first | done | rfl
       case false =>
        simp only [go_sem, q]
        cases hb7 : (l == [115, 111, 114, 116, 66, 121, 77, 97, 120, 105, 109, 97])
        case true =>
         rw [show wayR l = 4 from by unfold wayR; rw [if_neg (by rw [hb0]; decide)]; rw [if_neg (by rw [hb1]; decide)]; rw [if_neg (by rw [hb2]; decide)]; rw [if_neg (by rw [hb3]; decide)]; rw [if_neg (by rw [hb4]; decide)]; rw [if_neg (by rw [hb5]; decide)]; rw [if_neg (by rw [hb6]; decide)]; rw [if_pos hb7]]
         simp only [go_sem, q]
         refine Cl_plain (hR _) ?_
         simp only [go_sem]
         refine wE ?_
         simp only [go_sem, r_ref27_Measure]
         first | done | rfl
        case false =>
         simp only [go_sem, q]
         cases hb8 : (l == [109, 105, 110, 105, 109, 117, 109, 65, 98, 111, 118, 101])
         case true =>
          rw [show wayR l = 3 from by unfold wayR; rw [if_neg (by rw [hb0]; decide)]; rw [if_neg (by rw [hb1]; decide)]; rw [if_neg (by rw [hb2]; decide)]; rw [if_neg (by rw [hb3]; decide)]; rw [if_neg (by rw [hb4]; decide)]; rw [if_neg (by rw [hb5]; decide)]; rw [if_neg (by rw [hb6]; decide)]; rw [if_neg (by rw [hb7]; decide)]; rw [if_pos hb8]]
          simp only [go_sem, q]
          refine Cl_plain (hR _) ?_
          simp only [go_sem]
          refine wE ?_
          simp only [go_sem, r_ref27_Measure]
          first | done | rfl
         case false =>
          simp only [go_sem, q]
          cases hb9 : (l == [109, 105, 110, 105, 109, 117, 109, 66, 101, 108, 111, 119])
          case true =>
           rw [show wayR l = 3 from by unfold wayR; rw [if_neg (by rw [hb0]; decide)]; rw [if_neg (by rw [hb1]; decide)]; rw [if_neg (by rw [hb2]; decide)]; rw [if_neg (by rw [hb3]; decide)]; rw [if_neg (by rw [hb4]; decide)]; rw [if_neg (by rw [hb5]; decide)]; rw [if_neg (by rw [hb6]; decide)]; rw [if_neg (by rw [hb7]; decide)]; rw [if_neg (by rw [hb8]; decide)]; rw [if_pos hb9]]
           simp only [go_sem, q]
           refine Cl_plain (hR _) ?_
           simp only [go_sem]
           refine wE ?_
           simp only [go_sem, r_ref27_Measure]
           first | done | rfl
          case false =>
           simp only [go_sem, q]
           cases hb10 : (l == [115, 111, 114, 116, 66, 121, 77, 105, 110, 105, 109, 97])
           case true =>
            rw [show wayR l = 3 from by unfold wayR; rw [if_neg (by rw [hb0]; decide)]; rw [if_neg (by rw [hb1]; decide)]; rw [if_neg (by rw [hb2]; decide)]; rw [if_neg (by rw [hb3]; decide)]; rw [if_neg (by rw [hb4]; decide)]; rw [if_neg (by rw [hb5]; decide)]; rw [if_neg (by rw [hb6]; decide)]; rw [if_neg (by rw [hb7]; decide)]; rw [if_neg (by rw [hb8]; decide)]; rw [if_neg (by rw [hb9]; decide)]; rw [if_pos hb10]]
            simp only [go_sem, q]
            refine Cl_plain (hR _) ?_
            simp only [go_sem]
            refine wE ?_
            simp only [go_sem, r_ref27_Measure]
            first | done | rfl
           case false =>
            simp only [go_sem, q]
            cases hb11 : (l == [104, 105, 103, 104, 101, 115, 116, 67, 117, 114, 114, 101, 110, 116])
            case true =>
             rw [show wayR l = 5 from by unfold wayR; rw [if_neg (by rw [hb0]; decide)]; rw [if_neg (by rw [hb1]; decide)]; rw [if_neg (by rw [hb2]; decide)]; rw [if_neg (by rw [hb3]; decide)]; rw [if_neg (by rw [hb4]; decide)]; rw [if_neg (by rw [hb5]; decide)]; rw [if_neg (by rw [hb6]; decide)]; rw [if_neg (by rw [hb7]; decide)]; rw [if_neg (by rw [hb8]; decide)]; rw [if_neg (by rw [hb9]; decide)]; rw [if_neg (by rw [hb10]; decide)]; rw [if_pos hb11]]
             simp only [go_sem, q]
             refine Cl_plain (hR _) ?_
             simp only [go_sem]
             refine wE ?_
             simp only [go_sem, r_ref27_Measure]
             first | done | rfl
            case false =>
             simp only [go_sem, q]
             cases hb12 : (l == [108, 111, 119, 101, 115, 116, 67, 117, 114, 114, 101, 110, 116])
             case true =>
              rw [show wayR l = 5 from by unfold wayR; rw [if_neg (by rw [hb0]; decide)]; rw [if_neg (by rw [hb1]; decide)]; rw [if_neg (by rw [hb2]; decide)]; rw [if_neg (by rw [hb3]; decide)]; rw [if_neg (by rw [hb4]; decide)]; rw [if_neg (by rw [hb5]; decide)]; rw [if_neg (by rw [hb6]; decide)]; rw [if_neg (by rw [hb7]; decide)]; rw [if_neg (by rw [hb8]; decide)]; rw [if_neg (by rw [hb9]; decide)]; rw [if_neg (by rw [hb10]; decide)]; rw [if_neg (by rw [hb11]; decide)]; rw [if_pos hb12]]
              simp only [go_sem, q]
              refine Cl_plain (hR _) ?_
              simp only [go_sem]
              refine wE ?_
              simp only [go_sem, r_ref27_Measure]
              first | done | rfl
             case false =>
              simp only [go_sem, q]
              cases hb13 : (l == [99, 117, 114, 114, 101, 110, 116, 65, 98, 111, 118, 101])
              case true =>
               rw [show wayR l = 5 from by unfold wayR; rw [if_neg (by rw [hb0]; decide)]; rw [if_neg (by rw [hb1]; decide)]; rw [if_neg (by rw [hb2]; decide)]; rw [if_neg (by rw [hb3]; decide)]; rw [if_neg (by rw [hb4]; decide)]; rw [if_neg (by rw [hb5]; decide)]; rw [if_neg (by rw [hb6]; decide)]; rw [if_neg (by rw [hb7]; decide)]; rw [if_neg (by rw [hb8]; decide)]; rw [if_neg (by rw [hb9]; decide)]; rw [if_neg (by rw [hb10]; decide)]; rw [if_neg (by rw [hb11]; decide)]; rw [if_neg (by rw [hb12]; decide)]; rw [if_pos hb13]]
               simp only [go_sem, q]
               refine Cl_plain (hR _) ?_
               simp only [go_sem]
               refine wE ?_
               simp only [go_sem, r_ref27_Measure]
               first | done | rfl
              case false =>
               simp only [go_sem, q]
               cases hb14 : (l == [99, 117, 114, 114, 101, 110, 116, 66, 101, 108, 111, 119])
               case true =>
                rw [show wayR l = 5 from by unfold wayR; rw [if_neg (by rw [hb0]; decide)]; rw [if_neg (by rw [hb1]; decide)]; rw [if_neg (by rw [hb2]; decide)]; rw [if_neg (by rw [hb3]; decide)]; rw [if_neg (by rw [hb4]; decide)]; rw [if_neg (by rw [hb5]; decide)]; rw [if_neg (by rw [hb6]; decide)]; rw [if_neg (by rw [hb7]; decide)]; rw [if_neg (by rw [hb8]; decide)]; rw [if_neg (by rw [hb9]; decide)]; rw [if_neg (by rw [hb10]; decide)]; rw [if_neg (by rw [hb11]; decide)]; rw [if_neg (by rw [hb12]; decide)]; rw [if_neg (by rw [hb13]; decide)]; rw [if_pos hb14]]
                simp only [go_sem, q]
                refine Cl_plain (hR _) ?_
                simp only [go_sem]
                refine wE ?_
                simp only [go_sem, r_ref27_Measure]
                first | done | rfl
               case false =>
                simp only [go_sem, q]
                cases hb15 : (l == [115, 111, 114, 116, 66, 121, 84, 111, 116, 97, 108])
                case true =>
                 rw [show wayR l = 2 from by unfold wayR; rw [if_neg (by rw [hb0]; decide)]; rw [if_neg (by rw [hb1]; decide)]; rw [if_neg (by rw [hb2]; decide)]; rw [if_neg (by rw [hb3]; decide)]; rw [if_neg (by rw [hb4]; decide)]; rw [if_neg (by rw [hb5]; decide)]; rw [if_neg (by rw [hb6]; decide)]; rw [if_neg (by rw [hb7]; decide)]; rw [if_neg (by rw [hb8]; decide)]; rw [if_neg (by rw [hb9]; decide)]; rw [if_neg (by rw [hb10]; decide)]; rw [if_neg (by rw [hb11]; decide)]; rw [if_neg (by rw [hb12]; decide)]; rw [if_neg (by rw [hb13]; decide)]; rw [if_neg (by rw [hb14]; decide)]; rw [if_pos hb15]]
                 simp only [go_sem, q]
                 refine Cl_plain (hR _) ?_
                 simp only [go_sem]
                 refine wE ?_
                 simp only [go_sem, r_ref27_Measure]
                 first | done | rfl
                case false =>
                 simp only [go_sem, q]
                 rw [show wayR l = 0 from by unfold wayR; rw [if_neg (by rw [hb0]; decide)]; rw [if_neg (by rw [hb1]; decide)]; rw [if_neg (by rw [hb2]; decide)]; rw [if_neg (by rw [hb3]; decide)]; rw [if_neg (by rw [hb4]; decide)]; rw [if_neg (by rw [hb5]; decide)]; rw [if_neg (by rw [hb6]; decide)]; rw [if_neg (by rw [hb7]; decide)]; rw [if_neg (by rw [hb8]; decide)]; rw [if_neg (by rw [hb9]; decide)]; rw [if_neg (by rw [hb10]; decide)]; rw [if_neg (by rw [hb11]; decide)]; rw [if_neg (by rw [hb12]; decide)]; rw [if_neg (by rw [hb13]; decide)]; rw [if_neg (by rw [hb14]; decide)]; rw [if_neg (by rw [hb15]; decide)]]
                 refine Cl_plain (hR _) ?_
                 simp only [go_sem]
                 refine wE ?_
                 simp only [go_sem, r_ref27_Measure]
                 first | done | rfl

end Go.Proofs.YtgmpceijcdimkaaGreatDoor
namespace Go.Proofs.YtgmpceijcdimkaaGreatDoor
open Go Go.Sx

def wAlias : List UInt8 := [97, 108, 105, 97, 115]
def wNode : List UInt8 := [97, 108, 105, 97, 115, 66, 121, 78, 111, 100, 101]
def wGroup : List UInt8 := [103, 114, 111, 117, 112]
def wSort : List UInt8 := [115, 111, 114, 116, 66, 121]
def wGrep : List UInt8 := [103, 114, 101, 112]
def wExcl : List UInt8 := [101, 120, 99, 108, 117, 100, 101]
def wByName : List UInt8 := [115, 111, 114, 116, 66, 121, 78, 97, 109, 101]

theorem ruleOf_no : ∀ (t : List (List UInt8 × Int × Int)) (l : List UInt8), l ∉ t.map (·.1) → ruleOf t l = none := by
 intro t l
 induction t using snoc_ind with
 | h0 => intro _; rfl
 | h1 t x ih =>
  intro h
  rw [List.map_append, List.mem_append] at h
  rw [ruleOf_snoc, if_neg (fun e => h (Or.inr (by simp [e]))), ih (fun m => h (Or.inl m))]

/-- One of the words, or none of them. -/
theorem word_cases (P : List UInt8 → Prop) (l : List UInt8) (h1 : ∀ p ∈ ruleTab, P p.1) (h2 : l ∉ ruleTab.map (·.1) → P l) : P l := by
 by_cases h : l ∈ ruleTab.map (·.1)
 ·obtain ⟨p, hp, rfl⟩ := List.mem_map.1 h
  exact h1 p hp
 ·exact h2 h

theorem not_word {l w : List UInt8} (h : l ∉ ruleTab.map (·.1)) (hw : (ruleTab.map (·.1)).contains w = true) : ¬ (l == w) = true := by
 intro e
 have : l = w := by simpa using e
 subst this
 exact h (by simpa using hw)

def takesP (l : List UInt8) : (Int × Int) × (Bool × Bool) :=
 if (ruledM l).2 = false then ((0, 0), (false, false)) else if (l == wNode) = true then ((1, 16), (false, true)) else if ((ruledM l).1.1 == 6 || l == wAlias) = true then ((0, 0), (true, true))
 else if (l == wGroup || l.take 6 == wSort) = true then ((0, 0), (false, true)) else ((1, 1), (false, true))

theorem takes_eq (l : List UInt8) : takesP l = takesR l := by
 refine word_cases (fun l => takesP l = takesR l) l (by decide +kernel) fun h => ?_
 have e : takesP l = ((0, 0), (false, false)) := by
  unfold takesP ruledM
  rw [ruleOf_no _ _ h]
  rfl
 rw [e]
 unfold takesR
 iterate 23 rw [if_neg (not_word h (by decide +kernel))]

theorem way_eq (l : List UInt8) : (ruledM l).1.2 = wayR l := by
 refine word_cases (fun l => (ruledM l).1.2 = wayR l) l (by decide +kernel) fun h => ?_
 have e : (ruledM l).1.2 = 0 := by unfold ruledM; rw [ruleOf_no _ _ h]; rfl
 rw [e]
 unfold wayR
 iterate 16 rw [if_neg (not_word h (by decide +kernel))]

theorem f_HasPrefixS (l : List UInt8) (hl : l.length ≤ 1000000000) : Meets Tryz.prog E0 n_strings_HasPrefix [Str (toB l), Str (bs [115, 111, 114, 116, 66, 121])] [] (Bo (l.take 6 == wSort)) [] := by
 have h : Meets Tryz.prog E0 n_stringslite_HasPrefix [Str (toB l), Str (toB wSort)] [] (Bo (l.take 6 == wSort)) [] := by
  refine st0 m_stringslite_HasPrefix ?_
  have e6 : wSort.length = 6 := rfl
  have c6 : ((6 : Nat) : Int) = 6 := rfl
  by_cases h6 : 6 ≤ l.length
  ·have d : decide ((6 : Int) ≤ (l.length : Int)) = true := decide_eq_true (by omega)
   have c1 : ((6 : Int) ≤ (l.length : Int)) = True := eq_true (by omega)
   have e : (toB l).extract 0 6 = toB (l.take 6) := by rw [extT]; rfl
   have q := eqT (l.take 6) wSort
   simp only [go_sem, s_stringslite_HasPrefix, toB_size, e6, c6, d, c1, e, q]
   refine wE ?_
   simp only [go_sem, r_stringslite_HasPrefix]
  ·have d : decide ((6 : Int) ≤ (l.length : Int)) = false := decide_eq_false (by omega)
   have hz : (l.take 6 == wSort) = false := by
    have : (l.take 6).length ≠ wSort.length := by rw [List.length_take, e6]; omega
    have : l.take 6 ≠ wSort := fun e => this (by rw [e])
    simpa using this
   rw [hz]
   simp only [go_sem, s_stringslite_HasPrefix, toB_size, e6, c6, d]
   refine wE ?_
   simp only [go_sem, r_stringslite_HasPrefix]
 refine st0 m_strings_HasPrefix ?_
 simp only [go_sem, s_strings_HasPrefix]
 refine Cl_plain h ?_
 simp only [go_sem]
 refine wE ?_
 simp only [go_sem, r_strings_HasPrefix]

theorem f_choose_Takes (l : List UInt8) (hl : l.length ≤ 1000000000) : Meets Tryz.prog E0 n_choose_Takes [Str (toB l)] [] (.tp [I (takesR l).1.1, I (takesR l).1.2, Bo (takesR l).2.1, Bo (takesR l).2.2]) [] := by
 refine st0 m_choose_Takes ?_
 rw [← takes_eq]
 unfold takesP
 have hR := f_choose_ruled l hl
 have hP := f_HasPrefixS l hl
 have q1 : binStr .eql (toB l) (bs [97, 108, 105, 97, 115, 66, 121, 78, 111, 100, 101]) = some (.bool (l == wNode)) := eqT l wNode
 have q2 : binStr .eql (toB l) (bs [97, 108, 105, 97, 115]) = some (.bool (l == wAlias)) := eqT l wAlias
 have q3 : binStr .eql (toB l) (bs [103, 114, 111, 117, 112]) = some (.bool (l == wGroup)) := eqT l wGroup
 generalize ruledM l = r at *
 obtain ⟨⟨k, w⟩, ok⟩ := r
 simp only [go_sem, s_choose_Takes]
 refine Cl_plain hR ?_
 simp only
 cases ok
 ·rw [if_pos rfl]
  simp only [go_sem]
  refine wE ?_
  simp only [go_sem, r_choose_Takes]
  first | done | rfl
 ·rw [if_neg (by decide)]
  cases h1 : (l == wNode)
  ·rw [if_neg (by decide)]
   have d6 : decide (k = 6) = (k == 6) := by by_cases h : k = 6 <;> simp [h]
   cases h2 : (k == 6)
   ·rw [h2] at d6
    cases h3 : (l == wAlias)
    ·rw [if_neg (by decide)]
     cases h4 : (l == wGroup)
     ·cases h5 : (l.take 6 == wSort)
      ·rw [h5] at hP
       rw [if_neg (by decide)]
       simp only [go_sem, q1, q2, q3, h1, h3, h4, d6]
       refine Cl_plain hP ?_
       simp only [go_sem]
       refine wE ?_
       simp only [go_sem, r_choose_Takes]
       first | done | rfl
      ·rw [h5] at hP
       rw [if_pos (by rfl)]
       simp only [go_sem, q1, q2, q3, h1, h3, h4, d6]
       refine Cl_plain hP ?_
       simp only [go_sem]
       refine wE ?_
       simp only [go_sem, r_choose_Takes]
       first | done | rfl
     ·rw [if_pos (by rfl)]
      simp only [go_sem, q1, q2, q3, h1, h3, h4, d6]
      refine wE ?_
      simp only [go_sem, r_choose_Takes]
      first | done | rfl
    ·rw [if_pos (by rfl)]
     simp only [go_sem, q1, q2, q3, h1, h3, d6]
     refine wE ?_
     simp only [go_sem, r_choose_Takes]
     first | done | rfl
   ·rw [h2] at d6
    rw [if_pos (by rfl)]
    simp only [go_sem, q1, q2, q3, h1, d6]
    refine wE ?_
    simp only [go_sem, r_choose_Takes]
    first | done | rfl
  ·rw [if_pos rfl]
   simp only [go_sem, q1, h1]
   refine wE ?_
   simp only [go_sem, r_choose_Takes]
   first | done | rfl

theorem f_choose_Measure (l : List UInt8) (hl : l.length ≤ 1000000000) (s : Ser) (hs : s.2.2.2.length ≤ 100000) (h : inS s) : Meets Tryz.prog E0 n_choose_Measure [Str (toB l), .ag [Str (toB s.1), I s.2.1, I s.2.2.1, numL s.2.2.2]] [] (NO (reckM (wayR l) s.2.2.2)) [] := by
 refine st0 m_choose_Measure ?_
 rw [← way_eq]
 have hR := f_choose_ruled l hl
 have hK := f_series_Reckon (ruledM l).1.2 s.2.2.2 hs h
 have hz : (ruledM l).2 = false → (ruledM l).1.2 = 0 := by
  unfold ruledM
  intro e
  have : ruleOf ruleTab l = none := by
   cases hq : ruleOf ruleTab l with
   | none => rfl
   | some x => rw [hq] at e; cases e
  rw [this]; rfl
 generalize ruledM l = r at *
 obtain ⟨⟨k, w⟩, ok⟩ := r
 simp only [go_sem, s_choose_Measure]
 refine Cl_plain hR ?_
 simp only at hK hz ⊢
 cases ok
 ·have hw := hz rfl
  subst hw
  have e0 : reckM 0 s.2.2.2 = none := by
   unfold reckM reckK
   split
   ·rfl
   ·rw [if_neg (by decide), if_neg (by decide), if_neg (by decide), if_neg (by decide), if_neg (by decide)]
  rw [e0]
  simp only [go_sem]
  refine wE ?_
  simp only [go_sem, r_choose_Measure]
  first | done | rfl
 ·simp only [go_sem]
  refine Cl_plain hK ?_
  simp only [go_sem]
  refine wE ?_
  simp only [go_sem, r_choose_Measure]

end Go.Proofs.YtgmpceijcdimkaaGreatDoor
namespace Go.Proofs.YtgmpceijcdimkaaGreatDoor
open Go Go.Sx

/-- The order of two measures. -/
def ordM (a b : Option Int) (down : Bool) : Int := match a, b with
 | none, none => 0
 | none, some _ => 1
 | some _, none => -1
 | some x, some y => if down then (if y < x then -1 else if x < y then 1 else 0) else (if x < y then -1 else if y < x then 1 else 0)

theorem f_choose_order (a b : Option Int) (down : Bool) (ha : Rt a) (hb : Rt b) : Meets Tryz.prog E0 n_choose_order [NO a, NO b, Bo down] [] (I (ordM a b down)) [] := by
 refine st0 m_choose_order ?_
 have c1 := f_fixed_Cmp b.isNone a.isNone (b.getD 0) (a.getD 0)
 have c2 := f_fixed_Cmp a.isNone b.isNone (a.getD 0) (b.getD 0)
 rw [ha.val, hb.val] at c1 c2
 cases a with
 | none =>
  cases b with
  | none =>
   simp only [go_sem, s_choose_order]
   refine wE ?_
   simp only [go_sem, r_choose_order]
   first | done | rfl
  | some y =>
   simp only [go_sem, s_choose_order]
   refine wE ?_
   simp only [go_sem, r_choose_order]
   first | done | rfl
 | some x =>
  cases b with
  | none =>
   simp only [go_sem, s_choose_order]
   refine wE ?_
   simp only [go_sem, r_choose_order]
   first | done | rfl
  | some y =>
   cases down
   ·simp only [go_sem, s_choose_order]
    refine Cl_plain c2 ?_
    simp only [go_sem]
    refine wE ?_
    simp only [go_sem, r_choose_order]
    first | done | rfl
   ·simp only [go_sem, s_choose_order]
    refine Cl_plain c1 ?_
    simp only [go_sem]
    refine wE ?_
    simp only [go_sem, r_choose_order]
    first | done | rfl

theorem f_choose_sorted_1 (x y : Ser × Option Int) (down : Bool) (hx : Rt x.2) (hy : Rt y.2) : Meets Tryz.prog E0 n_choose_sorted_1 [.ag [Str (toB x.1.1), I x.1.2.1, I x.1.2.2.1, numL x.1.2.2.2, Bo x.2.isNone, I (x.2.getD 0)], .ag [Str (toB y.1.1), I y.1.2.1, I y.1.2.2.1, numL y.1.2.2.2, Bo y.2.isNone, I (y.2.getD 0)], .ptr 1 0] [(1, .box [Bo down])] (I (ordM x.2 y.2 down)) [(1, .box [Bo down])] := by
 refine m_choose_sorted_1 (by simp) (shut_of (by simp [idsL, AV.ids, keysOf]) (by simp [Ob.live, Ob.ids, keysOf, idsL, AV.ids])) (shut_of (by simp [idsL, AV.ids, keysOf]) (by simp [Ob.live, Ob.ids, keysOf, idsL, AV.ids])) (by simp [keysOf]) (by simp [keysOf]) ?_
 simp only [go_sem, s_choose_sorted_1]
 refine Cl_plain (f_choose_order x.2 y.2 down hx hy) ?_
 simp only [go_sem]
 refine wO [] [] ?_
 simp only [go_sem, r_choose_sorted_1, exists_eq_left', Option.some.injEq]
 simp [wkV, wkL, slTrees, AV.asOwn, rowPart, stoOf, AV.isNil, shA, rowsT, cellsT, cellT, ren]

end Go.Proofs.YtgmpceijcdimkaaGreatDoor
namespace Go.Proofs.YtgmpceijcdimkaaGreatDoor
open Go Go.Sx

def row_api_Series (x : Ser) : List T := [.v (.string (toB (x).1)), .v (.int .i64 (x).2.1), .v (.int .i64 (x).2.2.1), .sl 2 ((x).2.2.2.map numT)]

theorem swd_step_api_Series {p u m v q : List Ser} {i : Nat} (hn : u.length = v.length) (hi : i < u.length) : ∃ x y, (p ++ (v.take i ++ u.drop i) ++ m ++ (u.take i ++ v.drop i) ++ q)[p.length + i]? = some x ∧ (p ++ (v.take i ++ u.drop i) ++ m ++ (u.take i ++ v.drop i) ++ q)[p.length + u.length + m.length + i]? = some y ∧
  (((p ++ (v.take i ++ u.drop i) ++ m ++ (u.take i ++ v.drop i) ++ q).set (p.length + i) y)[p.length + u.length + m.length + i]? = some y) ∧
  ((p ++ (v.take i ++ u.drop i) ++ m ++ (u.take i ++ v.drop i) ++ q).set (p.length + i) y).set (p.length + u.length + m.length + i) x = p ++ (v.take (i + 1) ++ u.drop (i + 1)) ++ m ++ (u.take (i + 1) ++ v.drop (i + 1)) ++ q := by
 obtain ⟨u1, x, u2, rfl, rfl⟩ : ∃ u1 x u2, u = u1 ++ x :: u2 ∧ u1.length = i := ⟨u.take i, u[i], u.drop (i + 1), by simp, by simp; omega⟩
 obtain ⟨v1, y, v2, rfl, hv⟩ : ∃ v1 y v2, v = v1 ++ y :: v2 ∧ v1.length = u1.length := ⟨v.take u1.length, v[u1.length], v.drop (u1.length + 1), by simp, by simp; omega⟩
 have l2 : v2.length = u2.length := by simp at hn; omega
 refine ⟨x, y, ?_⟩
 have e1 : (v1 ++ y :: v2).take u1.length ++ (u1 ++ x :: u2).drop u1.length = v1 ++ x :: u2 := by rw [← hv, List.take_left, hv, List.drop_left]
 have e2 : (u1 ++ x :: u2).take u1.length ++ (v1 ++ y :: v2).drop u1.length = u1 ++ y :: v2 := by rw [List.take_left, ← hv, List.drop_left]
 have e3 : (v1 ++ y :: v2).take (u1.length + 1) ++ (u1 ++ x :: u2).drop (u1.length + 1) = v1 ++ y :: u2 := by
  rw [show v1 ++ y :: v2 = (v1 ++ [y]) ++ v2 by simp, show u1 ++ x :: u2 = (u1 ++ [x]) ++ u2 by simp, List.take_left' (by simp [hv]), List.drop_left' (by simp)]; simp
 have e4 : (u1 ++ x :: u2).take (u1.length + 1) ++ (v1 ++ y :: v2).drop (u1.length + 1) = u1 ++ x :: v2 := by
  rw [show v1 ++ y :: v2 = (v1 ++ [y]) ++ v2 by simp, show u1 ++ x :: u2 = (u1 ++ [x]) ++ u2 by simp, List.take_left' (by simp), List.drop_left' (by simp [hv])]; simp
 rw [e1, e2, e3, e4]
 have f1 : p ++ (v1 ++ x :: u2) ++ m ++ (u1 ++ y :: v2) ++ q = (p ++ v1) ++ x :: (u2 ++ m ++ u1 ++ y :: (v2 ++ q)) := by simp
 have f2 : p ++ (v1 ++ y :: u2) ++ m ++ (u1 ++ y :: v2) ++ q = (p ++ v1 ++ y :: u2 ++ m ++ u1) ++ y :: (v2 ++ q) := by simp
 have n1 : p.length + u1.length = (p ++ v1).length := by simp [hv]
 have n2 : p.length + (u1 ++ x :: u2).length + m.length + u1.length = (p ++ v1 ++ y :: u2 ++ m ++ u1).length := by simp [hv]; omega
 have s1 : (p ++ (v1 ++ x :: u2) ++ m ++ (u1 ++ y :: v2) ++ q).set (p.length + u1.length) y = p ++ (v1 ++ y :: u2) ++ m ++ (u1 ++ y :: v2) ++ q := by
  rw [f1, n1, List.set_append_right _ _ (Nat.le_refl _), Nat.sub_self, List.set_cons_zero]; simp
 refine ⟨?_, ?_, ?_, ?_⟩
 ·rw [f1, n1, List.getElem?_append_right (Nat.le_refl _), Nat.sub_self]; rfl
 ·have : p ++ (v1 ++ x :: u2) ++ m ++ (u1 ++ y :: v2) ++ q = (p ++ v1 ++ x :: u2 ++ m ++ u1) ++ y :: (v2 ++ q) := by simp
  rw [this, show p.length + (u1 ++ x :: u2).length + m.length + u1.length = (p ++ v1 ++ x :: u2 ++ m ++ u1).length by simp [hv]; omega, List.getElem?_append_right (Nat.le_refl _), Nat.sub_self]; rfl
 ·rw [s1, f2, n2, List.getElem?_append_right (Nat.le_refl _), Nat.sub_self]; rfl
 ·rw [s1, f2, n2, List.set_append_right _ _ (Nat.le_refl _), Nat.sub_self, List.set_cons_zero]; simp

theorem f_swapRange_api_Series (g L : Nat) (r : Bool)  (p u m v q : List Ser) (hn : u.length = v.length) (hL : L = (p ++ u ++ m ++ v ++ q).length) (hb : L ≤ 281474976710656) :
  Meets Tryz.prog E0 n_slices_swapRangeCmpFunc_api_Series [.own 0 4 0 L r, I p.length, I (p.length + u.length + m.length : Nat), I u.length, .fn g [] []] [(0, .row 4 true ((p ++ u ++ m ++ v ++ q).map row_api_Series))] (.tp []) [(0, .row 4 true ((p ++ v ++ m ++ u ++ q).map row_api_Series))] := by
 refine m_slices_swapRangeCmpFunc_api_Series (by simp) (shut_of (by simp [idsL, AV.ids, keysOf]) (by simp [Ob.live, Ob.ids, keysOf, idsL, AV.ids])) (shut_of (by simp [idsL, AV.ids, keysOf]) (by simp [Ob.live, Ob.ids, keysOf, idsL, AV.ids])) (by simp [keysOf]) (by simp [keysOf]) ?_
 simp only [go_sem, s_slices_swapRangeCmpFunc_api_Series]
 refine W_loop (fun i : Nat => u.length - i) (fun i => i ≤ u.length)
  (fun i => [(0, .own 0 4 0 L r), (1, I p.length), (2, I (p.length + u.length + m.length : Nat)), (3, I u.length), (10, I i)])
  (fun i => [(0, .row 4 true ((p ++ (v.take i ++ u.drop i) ++ m ++ (u.take i ++ v.drop i) ++ q).map row_api_Series))]) 0 (Nat.zero_le _) ?_ ?_
 ·simp only [List.take_zero, List.drop_zero, List.nil_append]
  exact (sR [] [])
 ·intro i hi
  simp only [List.length_append] at hL
  by_cases hlt : i < u.length
  ·obtain ⟨x, y, g1, g2, g3, g4⟩ := swd_step_api_Series (p := p) (m := m) (q := q) hn hlt
   have ea : IntKind.i64.wrap ((p.length : Int) + (i : Int)) = ((p.length + i : Nat) : Int) := by rw [wrap_i64_of (by omega) (by omega)]; omega
   have eb : IntKind.i64.wrap (((p.length + u.length + m.length : Nat) : Int) + (i : Int)) = ((p.length + u.length + m.length + i : Nat) : Int) := by rw [wrap_i64_of (by omega) (by omega)]; omega
   have ei : IntKind.i64.wrap ((i : Int) + 1) = ((i + 1 : Nat) : Int) := by rw [wrap_i64_of (by omega) (by omega)]; omega
   have ia : ((p.length + i : Nat) : Int) < (L : Int) := by omega
   have ib : ((p.length + u.length + m.length + i : Nat) : Int) < (L : Int) := by omega
   have d1 : decide (i < u.length) = true := decide_eq_true hlt
   have hnx : ((((p ++ (v.take i ++ u.drop i) ++ m ++ (u.take i ++ v.drop i) ++ q).map row_api_Series).set (p.length + i) [.v (.string (toB (y).1)), .v (.int .i64 (y).2.1), .v (.int .i64 (y).2.2.1), .sl 2 ((y).2.2.2.map numT)]).set (p.length + u.length + m.length + i) [.v (.string (toB (x).1)), .v (.int .i64 (x).2.1), .v (.int .i64 (x).2.2.1), .sl 2 ((x).2.2.2.map numT)]) = (p ++ (v.take (i + 1) ++ u.drop (i + 1)) ++ m ++ (u.take (i + 1) ++ v.drop (i + 1)) ++ q).map row_api_Series := by
    rw [← g4, List.map_set, List.map_set]; rfl
   have h3 : (((p ++ (v.take i ++ u.drop i) ++ m ++ (u.take i ++ v.drop i) ++ q).map row_api_Series).set (p.length + i) [.v (.string (toB (y).1)), .v (.int .i64 (y).2.1), .v (.int .i64 (y).2.2.1), .sl 2 ((y).2.2.2.map numT)])[p.length + u.length + m.length + i]? = some [.v (.string (toB (y).1)), .v (.int .i64 (y).2.1), .v (.int .i64 (y).2.2.1), .sl 2 ((y).2.2.2.map numT)] := by
    have := congrArg (Option.map row_api_Series) g3
    rw [← List.getElem?_map, List.map_set] at this
    exact this
   generalize p ++ (v.take i ++ u.drop i) ++ m ++ (u.take i ++ v.drop i) ++ q = d at *
   have h1 : (d.map row_api_Series)[p.length + i]? = some [.v (.string (toB (x).1)), .v (.int .i64 (x).2.1), .v (.int .i64 (x).2.2.1), .sl 2 ((x).2.2.2.map numT)] := by rw [List.getElem?_map, g1]; rfl
   have h2 : (d.map row_api_Series)[p.length + u.length + m.length + i]? = some [.v (.string (toB (y).1)), .v (.int .i64 (y).2.1), .v (.int .i64 (y).2.2.1), .sl 2 ((y).2.2.2.map numT)] := by rw [List.getElem?_map, g2]; rfl
   generalize d.map row_api_Series = dm at *
   simp only [go_sem, d1, ea, eb, ia, ib, h1, h2, h3, ei, hnx]
   exact rd_of (i + 1) (by first | omega | (simp only; omega)) hlt (sR [] [])
  ·obtain rfl : i = u.length := by omega
   have d1 : decide (u.length < u.length) = false := decide_eq_false (by omega)
   have e1 : v.take u.length = v := List.take_of_length_le (by omega)
   have e2 : u.drop u.length = [] := List.drop_length
   have e3 : u.take u.length = u := List.take_length
   have e4 : v.drop u.length = [] := List.drop_of_length_le (by omega)
   simp only [e1, e2, e3, e4, List.append_nil]
   simp only [go_sem, d1]
   refine wO [] [] ?_
   simp only [go_sem, r_slices_swapRangeCmpFunc_api_Series, exists_eq_left', Option.some.injEq]
   simp [wkV, wkL, slTrees, AV.asOwn, rowPart, stoOf, AV.isNil, shA, rowsT, cellsT, cellT, ren]

end Go.Proofs.YtgmpceijcdimkaaGreatDoor
namespace Go.Proofs.YtgmpceijcdimkaaGreatDoor
open Go Go.Sx

set_option maxHeartbeats 1000000 in
theorem f_rotate_api_Series (g L : Nat) (r : Bool)  (p x y q : List Ser) (hx : x ≠ []) (hy : y ≠ []) (hL : L = (p ++ x ++ y ++ q).length) (hb : L ≤ 281474976710656) :
  Meets Tryz.prog E0 n_slices_rotateCmpFunc_api_Series [.own 0 4 0 L r, I p.length, I (p.length + x.length : Nat), I (p.length + x.length + y.length : Nat), .fn g [] []] [(0, .row 4 true ((p ++ x ++ y ++ q).map row_api_Series))] (.tp []) [(0, .row 4 true ((p ++ y ++ x ++ q).map row_api_Series))] := by
 generalize hout : p ++ y ++ x ++ q = out
 have hLs : L = p.length + x.length + y.length + q.length := by rw [hL]; simp only [List.length_append]
 obtain ⟨M, hM⟩ : ∃ M, p.length + x.length = M := ⟨_, rfl⟩
 have ex : IntKind.i64.wrap (((p.length + x.length : Nat) : Int) - (p.length : Int)) = (x.length : Int) := by rw [wrap_i64_of (by omega) (by omega)]; omega
 have ey : IntKind.i64.wrap (((p.length + x.length + y.length : Nat) : Int) - ((p.length + x.length : Nat) : Int)) = (y.length : Int) := by rw [wrap_i64_of (by omega) (by omega)]; omega
 rw [hM] at ex ey ⊢
 refine m_slices_rotateCmpFunc_api_Series (by simp) (shut_of (by simp [idsL, AV.ids, keysOf]) (by simp [Ob.live, Ob.ids, keysOf, idsL, AV.ids])) (shut_of (by simp [idsL, AV.ids, keysOf]) (by simp [Ob.live, Ob.ids, keysOf, idsL, AV.ids])) (by simp [keysOf]) (by simp [keysOf]) ?_
 simp only [go_sem, s_slices_rotateCmpFunc_api_Series, ex, ey]
 refine W_loop (fun s : List Ser × List Ser × List Ser × List Ser => s.2.1.length + s.2.2.1.length) (fun s => s.2.1 ≠ [] ∧ s.2.2.1 ≠ [] ∧ s.1.length + s.2.1.length = M ∧ s.1.length + s.2.1.length + s.2.2.1.length + s.2.2.2.length = L ∧ s.1 ++ s.2.2.1 ++ s.2.1 ++ s.2.2.2 = out)
  (fun s => [(0, .own 0 4 0 L r), (2, I M), (4, .fn g [] []), (10, I s.2.1.length), (11, I s.2.2.1.length)])
  (fun s => [(0, .row 4 true ((s.1 ++ s.2.1 ++ s.2.2.1 ++ s.2.2.2).map row_api_Series))]) (p, x, y, q) ⟨hx, hy, hM, hLs.symm, hout⟩ (sR [] []) ?_
 clear hout ex ey hL hLs hM hx hy
 rintro ⟨p, x, y, q⟩ ⟨hx, hy, hM, hLs, hout⟩
 simp only at hx hy hM hLs hout ⊢
 have hxl : 0 < x.length := List.length_pos_iff.2 hx
 have hyl : 0 < y.length := List.length_pos_iff.2 hy
 have ea : IntKind.i64.wrap ((M : Int) - (x.length : Int)) = (p.length : Int) := by rw [wrap_i64_of (by omega) (by omega)]; omega
 rcases Nat.lt_trichotomy x.length y.length with hlt | heq | hgt
 ·have d1 : decide ((x.length : Int) = (y.length : Int)) = false := decide_eq_false (by omega)
  have d1' : decide (x.length = y.length) = false := decide_eq_false (by omega)
  have d2 : decide (y.length < x.length) = false := decide_eq_false (by omega)
  obtain ⟨y1, y2, rfl, hy1⟩ := split_at (show y.length - x.length ≤ y.length by omega)
  have hy2 : x.length = y2.length := by simp at hy1 hlt; omega
  have n1 : y2 ≠ [] := fun e => by rw [e, List.length_nil] at hy2; omega
  have n2 : y1 ≠ [] := fun e => by have e' := congrArg List.length e; simp only [List.length_append, List.length_nil] at e' hy1 hlt; omega
  have h := f_swapRange_api_Series g L r  p x y1 y2 q hy2 (by simp at hLs ⊢; omega) hb
  have e1 : p.length + x.length + y1.length = M + y1.length := by omega
  rw [e1] at h
  have e2 : p ++ x ++ (y1 ++ y2) ++ q = p ++ x ++ y1 ++ y2 ++ q := by simp
  rw [e2]
  have e3 : IntKind.i64.wrap (IntKind.i64.wrap ((M : Int) + ((y1 ++ y2).length : Int)) - (x.length : Int)) = ((M + y1.length : Nat) : Int) := by
   rw [wrap_i64_of (n := (M : Int) + _) (by omega) (by omega), wrap_i64_of (by omega) (by omega)]; simp; omega
  have e4 : IntKind.i64.wrap (((y1 ++ y2).length : Int) - (x.length : Int)) = (y1.length : Int) := by
   rw [wrap_i64_of (by omega) (by omega)]; simp; omega
  generalize hyy : (y1 ++ y2).length = yl at *
  simp only [go_sem, d1, d1', d2, ea, e3, e4]
  refine oB (h) ?_
  simp only [go_sem, e4]
  refine rd_of (p, y2, y1, x ++ q) (by simp at hyy ⊢; omega) ⟨n1, n2, by simp only; omega, by simp at hyy ⊢; omega, by rw [← hout]; simp⟩ ?_
  rw [hy2]
  have e5 : p ++ y2 ++ y1 ++ (x ++ q) = p ++ y2 ++ y1 ++ x ++ q := by simp
  simp only
  rw [e5]
  exact (sR [] [])
 ·have d1 : decide ((x.length : Int) = (y.length : Int)) = true := decide_eq_true (by omega)
  have d1' : decide (x.length = y.length) = true := decide_eq_true heq
  have h := f_swapRange_api_Series g L r  p x [] y q heq (by simp at hLs ⊢; omega) hb
  have e1 : p.length + x.length + ([] : List Ser).length = M := by simp; omega
  rw [e1, List.append_nil, List.append_nil, hout] at h
  simp only [go_sem, d1, d1', ea]
  refine oB (h) ?_
  simp only [go_sem]
  refine wO [] [] ?_
  simp only [go_sem, r_slices_rotateCmpFunc_api_Series, exists_eq_left', Option.some.injEq]
  simp [wkV, wkL, slTrees, AV.asOwn, rowPart, stoOf, AV.isNil, shA, rowsT, cellsT, cellT, ren]
 ·have d1 : decide ((x.length : Int) = (y.length : Int)) = false := decide_eq_false (by omega)
  have d1' : decide (x.length = y.length) = false := decide_eq_false (by omega)
  have d2 : decide (y.length < x.length) = true := decide_eq_true hgt
  obtain ⟨x1, x2, rfl, hx1⟩ := split_at (show y.length ≤ x.length by omega)
  have hx2 : x2.length < (x1 ++ x2).length := by simp; omega
  have n1 : x2 ≠ [] := fun e => by have e' := congrArg List.length e; simp only [List.length_append, List.length_nil] at e' hx1 hgt; omega
  have n2 : x1 ≠ [] := fun e => by have e' := congrArg List.length e; simp only [List.length_append, List.length_nil] at e' hx1 hgt; omega
  have h := f_swapRange_api_Series g L r  p x1 x2 y q hx1 (by simp at hLs ⊢; omega) hb
  have e1 : p.length + x1.length + x2.length = M := by simp at hM; omega
  rw [e1, hx1] at h
  have e2 : p ++ (x1 ++ x2) ++ y ++ q = p ++ x1 ++ x2 ++ y ++ q := by simp
  rw [e2]
  have e4 : IntKind.i64.wrap (((x1 ++ x2).length : Int) - (y.length : Int)) = (x2.length : Int) := by
   rw [wrap_i64_of (by omega) (by omega)]; simp; omega
  generalize hxx : (x1 ++ x2).length = xl at *
  simp only [go_sem, d1, d1', d2, ea]
  refine oB (h) ?_
  simp only [go_sem, e4]
  refine rd_of (p ++ y, x2, x1, q) (by simp at hxx ⊢; omega) ⟨n1, n2, by simp at hxx ⊢; omega, by simp at hxx ⊢; omega, by rw [← hout]; simp⟩ ?_
  simp only [hx1]
  exact (sR [] [])

end Go.Proofs.YtgmpceijcdimkaaGreatDoor
namespace Go.Proofs.YtgmpceijcdimkaaGreatDoor
open Go Go.Sx

def lt_api_Series (c : Ser → Ser → Int) (x y : Ser) : Bool := decide (c x y < 0)

set_option maxHeartbeats 1000000 in
theorem f_insertion_api_Series (g L : Nat) (r : Bool)  (c : Ser → Ser → Int) (D : Ser → Prop) (hc : ∀ x y, D x → D y → Meets Tryz.prog E0 g ([(.ag [Str (toB (x).1), I (x).2.1, I (x).2.2.1, numL (x).2.2.2]), (.ag [Str (toB (y).1), I (y).2.1, I (y).2.2.1, numL (y).2.2.2])] ++ []) [] (I (c x y)) [])
  (p m q : List Ser) (hD : ∀ x ∈ m, D x) (hL : L = (p ++ m ++ q).length) (hb : L ≤ 281474976710656) :
  Meets Tryz.prog E0 n_slices_insertionSortCmpFunc_api_Series [.own 0 4 0 L r, I p.length, I (p.length + m.length : Nat), .fn g [] []] [(0, .row 4 true ((p ++ m ++ q).map row_api_Series))] (.tp []) [(0, .row 4 true ((p ++ isrt (lt_api_Series c) m ++ q).map row_api_Series))] := by
 have hLs : L = p.length + m.length + q.length := by rw [hL]; simp only [List.length_append]
 obtain ⟨N, hN⟩ : ∃ N, p.length + m.length = N := ⟨_, rfl⟩
 rw [hN]
 refine m_slices_insertionSortCmpFunc_api_Series (by simp) (shut_of (by simp [idsL, AV.ids, keysOf]) (by simp [Ob.live, Ob.ids, keysOf, idsL, AV.ids])) (shut_of (by simp [idsL, AV.ids, keysOf]) (by simp [Ob.live, Ob.ids, keysOf, idsL, AV.ids])) (by simp [keysOf]) (by simp [keysOf]) ?_
 have e1 : IntKind.i64.wrap ((p.length : Int) + 1) = ((p.length + 1 : Nat) : Int) := by rw [wrap_i64_of (by omega) (by omega)]; omega
 have e0 : p ++ m ++ q = p ++ isrt (lt_api_Series c) (m.take 1) ++ m.drop 1 ++ q := by
  cases m with
  | nil => simp [isrt]
  | cons x m => simp [isrt, insR, insRev]
 simp only [go_sem, s_slices_insertionSortCmpFunc_api_Series, e1]
 refine W_loop (fun k : Nat => m.length + 1 - k) (fun k => 1 ≤ k ∧ k ≤ m.length + 1 ∧ (k ≤ m.length ∨ (k = 1 ∧ m = [])))
  (fun k => [(0, .own 0 4 0 L r), (1, I p.length), (2, I N), (3, .fn g [] []), (8, I (p.length + k : Nat))])
  (fun k => [(0, .row 4 true ((p ++ isrt (lt_api_Series c) (m.take k) ++ m.drop k ++ q).map row_api_Series))]) 1 ⟨Nat.le_refl _, by omega, ?_⟩ ?_ ?_
 ·cases m with
  | nil => exact .inr ⟨rfl, rfl⟩
  | cons x m => exact .inl (by simp)
 ·rw [e0]; exact (sR [] [])
 clear e0 e1
 rintro k ⟨hk1, hk2, hk3⟩
 by_cases hlt : k < m.length
 ·have d1 : decide (p.length + k < N) = true := decide_eq_true (by omega)
  have ei : IntKind.i64.wrap (((p.length + k : Nat) : Int) + 1) = ((p.length + (k + 1) : Nat) : Int) := by rw [wrap_i64_of (by omega) (by omega)]; omega
  obtain ⟨m1, x, m2, rfl, rfl⟩ := split_at1 hlt
  have t1 : (m1 ++ x :: m2).take m1.length = m1 := List.take_left
  have t2 : (m1 ++ x :: m2).drop m1.length = x :: m2 := List.drop_left
  have t3 : (m1 ++ x :: m2).take (m1.length + 1) = m1 ++ [x] := by rw [show m1 ++ x :: m2 = (m1 ++ [x]) ++ m2 by simp, List.take_left' (by simp)]
  have t4 : (m1 ++ x :: m2).drop (m1.length + 1) = m2 := by rw [show m1 ++ x :: m2 = (m1 ++ [x]) ++ m2 by simp, List.drop_left' (by simp)]
  have hx : D x := hD x (by simp)
  have hS : ∀ y ∈ isrt (lt_api_Series c) m1, D y := fun y hy => hD y (by simp [(isrt_mem _ y m1).1 hy])
  have hSl := isrt_len (lt_api_Series c) m1
  have hnext := isrt_snoc (lt_api_Series c) m1 x
  rw [t1, t2]
  generalize hS0 : isrt (lt_api_Series c) m1 = S at *
  have hml : (m1 ++ x :: m2).length = m1.length + 1 + m2.length := by simp; omega
  rw [hml] at hN hLs hk2 hk3 hlt ⊢
  simp only [go_sem, d1]
  refine W_loop (fun s : List Ser × List Ser => s.1.length) (fun s => s.1.length + s.2.length = m1.length ∧ (∀ y ∈ s.1, D y) ∧ insR (lt_api_Series c) x s.1 ++ s.2 = isrt (lt_api_Series c) (m1 ++ [x]))
   (fun s => [(0, .own 0 4 0 L r), (1, I p.length), (2, I N), (3, .fn g [] []), (8, I (p.length + m1.length : Nat)), (9, I (p.length + s.1.length : Nat))])
   (fun s => [(0, .row 4 true ((p ++ s.1 ++ x :: (s.2 ++ m2 ++ q)).map row_api_Series))]) (S, []) ⟨by simp; omega, hS, by rw [hnext]; simp⟩ ?_ ?_
  ·simp only [hSl, List.nil_append]
   rw [show p ++ S ++ x :: m2 ++ q = p ++ S ++ x :: (m2 ++ q) by simp]
   exact (sR [] [])
  rintro ⟨s1, s2⟩ ⟨hs1, hs2, hs3⟩
  simp only at hs1 hs2 hs3 ⊢
  rcases nil_or_snoc s1 with rfl | ⟨s1, y, rfl⟩
  ·have d2 : decide (p.length < p.length) = false := decide_eq_false (by omega)
   simp only [List.length_nil, Nat.add_zero]
   rw [insR_nil] at hs3
   have e2 : p ++ [] ++ x :: (s2 ++ m2 ++ q) = p ++ isrt (lt_api_Series c) (m1 ++ [x]) ++ m2 ++ q := by rw [← hs3]; simp
   rw [e2]
   simp only [go_sem, d2, ei]
   refine rd_of (m1.length + 1) (by first | omega | (simp only; omega)) ⟨by omega, by omega, .inl (by omega)⟩ ?_
   simp only [t3, t4]
   exact (sR [] [])
  ·have hy : D y := hs2 y (by simp)
   have hcc := hc x y hx hy
   have hl1 : (s1 ++ [y]).length = s1.length + 1 := by simp
   rw [hl1] at hs1
   simp only [hl1]
   have d2 : decide (p.length < p.length + (s1.length + 1)) = true := decide_eq_true (by omega)
   rw [insR_snoc] at hs3
   obtain ⟨g1, g2, g3, g4, _⟩ := sw_step (p ++ s1) y x (s2 ++ m2 ++ q) (n := p.length + s1.length) (m := p.length + (s1.length + 1)) (by simp) (by omega)
   have ed : p ++ (s1 ++ [y]) ++ x :: (s2 ++ m2 ++ q) = p ++ s1 ++ y :: x :: (s2 ++ m2 ++ q) := by simp
   rw [ed]
   have em : IntKind.i64.wrap (((p.length + (s1.length + 1) : Nat) : Int) - 1) = ((p.length + s1.length : Nat) : Int) := by rw [wrap_i64_of (by omega) (by omega)]; omega
   have ia : ((p.length + s1.length : Nat) : Int) < (L : Int) := by omega
   have ib : ((p.length + (s1.length + 1) : Nat) : Int) < (L : Int) := by omega
   have hnx : (((p ++ s1 ++ y :: x :: (s2 ++ m2 ++ q)).map row_api_Series).set (p.length + (s1.length + 1)) [.v (.string (toB (y).1)), .v (.int .i64 (y).2.1), .v (.int .i64 (y).2.2.1), .sl 2 ((y).2.2.2.map numT)]).set (p.length + s1.length) [.v (.string (toB (x).1)), .v (.int .i64 (x).2.1), .v (.int .i64 (x).2.2.1), .sl 2 ((x).2.2.2.map numT)] = (p ++ s1 ++ x :: y :: (s2 ++ m2 ++ q)).map row_api_Series := by
    rw [← g4, List.map_set, List.map_set]; rfl
   have h3 : (((p ++ s1 ++ y :: x :: (s2 ++ m2 ++ q)).map row_api_Series).set (p.length + (s1.length + 1)) [.v (.string (toB (y).1)), .v (.int .i64 (y).2.1), .v (.int .i64 (y).2.2.1), .sl 2 ((y).2.2.2.map numT)])[p.length + s1.length]? = some [.v (.string (toB (y).1)), .v (.int .i64 (y).2.1), .v (.int .i64 (y).2.2.1), .sl 2 ((y).2.2.2.map numT)] := by
    have := congrArg (Option.map row_api_Series) g3
    rw [← List.getElem?_map, List.map_set] at this
    exact this
   have h1 : ((p ++ s1 ++ y :: x :: (s2 ++ m2 ++ q)).map row_api_Series)[p.length + s1.length]? = some [.v (.string (toB (y).1)), .v (.int .i64 (y).2.1), .v (.int .i64 (y).2.2.1), .sl 2 ((y).2.2.2.map numT)] := by rw [List.getElem?_map, g1]; rfl
   have h2 : ((p ++ s1 ++ y :: x :: (s2 ++ m2 ++ q)).map row_api_Series)[p.length + (s1.length + 1)]? = some [.v (.string (toB (x).1)), .v (.int .i64 (x).2.1), .v (.int .i64 (x).2.2.1), .sl 2 ((x).2.2.2.map numT)] := by rw [List.getElem?_map, g2]; rfl
   cases hlt2 : decide (c x y < 0)
   ·have hlt3 : lt_api_Series c x y = false := hlt2
    rw [hlt3, if_neg (by decide)] at hs3
    have e2 : p ++ s1 ++ y :: x :: (s2 ++ m2 ++ q) = p ++ isrt (lt_api_Series c) (m1 ++ [x]) ++ m2 ++ q := by rw [← hs3]; simp
    generalize (p ++ s1 ++ y :: x :: (s2 ++ m2 ++ q)) = d at *
    subst e2
    generalize h5 : List.map row_api_Series (p ++ isrt (lt_api_Series c) (m1 ++ [x]) ++ m2 ++ q) = dm at *
    simp only [go_sem, d2, hl1, em, ia, ib, h1, h2]
    refine Cl_plain (hcc) ?_
    simp only [go_sem, hlt2, ei]
    refine rd_of (m1.length + 1) (by first | omega | (simp only; omega)) ⟨by omega, by omega, .inl (by omega)⟩ ?_
    simp only [t3, t4, ← h5]
    exact (sR [] [])
   ·have hlt3 : lt_api_Series c x y = true := hlt2
    rw [hlt3, if_pos rfl] at hs3
    generalize hdm : List.map row_api_Series (p ++ s1 ++ y :: x :: (s2 ++ m2 ++ q)) = dm at *
    simp only [go_sem, d2, hl1, em, ia, ib, h1, h2]
    refine Cl_plain (hcc) ?_
    simp only [go_sem, hlt2, em, ia, ib, h1, h2, h3, hnx]
    refine rd_of (s1, y :: s2) (by simp) ⟨by simp only [List.length_cons]; omega, fun z hz => hs2 z (by simp [hz]), by rw [← hs3]; simp⟩ ?_
    simp only [List.cons_append]
    exact (sR [] [])
 ·have d1 : decide (p.length + k < N) = false := decide_eq_false (by omega)
  have t1 : m.take k = m := List.take_of_length_le (by omega)
  have t2 : m.drop k = [] := List.drop_of_length_le (by omega)
  rw [t1, t2, List.append_nil]
  simp only [go_sem, d1]
  refine wO [] [] ?_
  simp only [go_sem, r_slices_insertionSortCmpFunc_api_Series, exists_eq_left', Option.some.injEq]
  simp [wkV, wkL, slTrees, AV.asOwn, rowPart, stoOf, AV.isNil, shA, rowsT, cellsT, cellT, ren]

end Go.Proofs.YtgmpceijcdimkaaGreatDoor
namespace Go.Proofs.YtgmpceijcdimkaaGreatDoor
open Go Go.Sx

theorem half_api_Series {x y : Nat} (h : x + y ≤ 562949953421312) : IntKind.i64.wrap ((x : Int) + (y : Int)) = ((x + y : Nat) : Int) ∧ IntKind.u64.wrap ((x + y : Nat) : Int) = ((x + y : Nat) : Int) ∧ IntKind.i64.wrap (((x + y) / 2 ^ min 1 64 : Nat) : Int) = (((x + y) / 2 : Nat) : Int) := by
 rw [show 2 ^ min 1 64 = 2 from rfl]
 refine ⟨?_, ?_, ?_⟩
 ·rw [wrap_i64_of (by omega) (by omega)]; omega
 ·rw [wrap_u64]; omega
 ·rw [wrap_i64_of (by omega) (by omega)]

set_option maxHeartbeats 1000000 in
theorem f_sym1_api_Series (g L : Nat) (r : Bool)  (c : Ser → Ser → Int) (D : Ser → Prop) (hc : ∀ x y, D x → D y → Meets Tryz.prog E0 g ([(.ag [Str (toB (x).1), I (x).2.1, I (x).2.2.1, numL (x).2.2.2]), (.ag [Str (toB (y).1), I (y).2.1, I (y).2.2.1, numL (y).2.2.2])] ++ []) [] (I (c x y)) []) (hO : Below3 (lt_api_Series c))
  (p b q : List Ser) (x : Ser) (hx : D x) (hb : ∀ y ∈ b, D y) (sb : Srt (lt_api_Series c) b) (hL : L = (p ++ [x] ++ b ++ q).length) (hLb : L ≤ 281474976710656) :
  Meets Tryz.prog E0 n_slices_symMergeCmpFunc_api_Series [.own 0 4 0 L r, I p.length, I (p.length + 1 : Nat), I (p.length + 1 + b.length : Nat), .fn g [] []] [(0, .row 4 true ((p ++ [x] ++ b ++ q).map row_api_Series))] (.tp []) [(0, .row 4 true ((p ++ mrg (lt_api_Series c) [x] b ++ q).map row_api_Series))] := by
 have hLs : L = p.length + 1 + b.length + q.length := by rw [hL]; simp only [List.length_append, List.length_cons, List.length_nil]
 refine m_slices_symMergeCmpFunc_api_Series (by simp) (shut_of (by simp [idsL, AV.ids, keysOf]) (by simp [Ob.live, Ob.ids, keysOf, idsL, AV.ids])) (shut_of (by simp [idsL, AV.ids, keysOf]) (by simp [Ob.live, Ob.ids, keysOf, idsL, AV.ids])) (by simp [keysOf]) (by simp [keysOf]) ?_
 have e1 : IntKind.i64.wrap (((p.length + 1 : Nat) : Int) - (p.length : Int)) = 1 := by rw [wrap_i64_of (by omega) (by omega)]; omega
 have d1 : decide ((1 : Int) = 1) = true := rfl
 simp only [go_sem, s_slices_symMergeCmpFunc_api_Series, e1, d1]
 refine W_loop (fun s : Nat × Nat => s.2 - s.1) (fun s => s.1 ≤ s.2 ∧ s.2 ≤ b.length ∧ (∀ i y, i + 1 = s.1 → b[i]? = some y → lt_api_Series c y x = true) ∧ (∀ y, b[s.2]? = some y → lt_api_Series c y x = false))
  (fun s => [(0, .own 0 4 0 L r), (1, I p.length), (4, .fn g [] []), (10, I (p.length + 1 + s.1 : Nat)), (11, I (p.length + 1 + s.2 : Nat))])
  (fun s => [(0, .row 4 true ((p ++ [x] ++ b ++ q).map row_api_Series))]) (0, b.length) ⟨Nat.zero_le _, Nat.le_refl _, by omega, fun y h => by simp at h⟩ (sR [] []) ?_
 rintro ⟨s, t⟩ ⟨hst, htb, hs, ht⟩
 simp only at hst htb hs ht ⊢
 by_cases hlt : s < t
 ·have d2 : decide (p.length + 1 + s < p.length + 1 + t) = true := decide_eq_true (by omega)
  obtain ⟨h1, h2, h3⟩ := half_api_Series (x := p.length + 1 + s) (y := p.length + 1 + t) (by omega)
  have hh : (p.length + 1 + s + (p.length + 1 + t)) / 2 = p.length + 1 + (s + t) / 2 := by omega
  rw [hh] at h3
  have hk1 : s ≤ (s + t) / 2 := by omega
  have hk2 : (s + t) / 2 < t := by omega
  generalize (s + t) / 2 = k at *
  obtain ⟨y, hy, hym⟩ := get_some (show k < b.length by omega)
  have hcc := hc y x (hb y hym) hx
  have g1 : ((p ++ [x] ++ b ++ q).map row_api_Series)[p.length + 1 + k]? = some [.v (.string (toB (y).1)), .v (.int .i64 (y).2.1), .v (.int .i64 (y).2.2.1), .sl 2 ((y).2.2.2.map numT)] := by rw [List.getElem?_map, get_b (p := p) (a := [x]) (b := b) (q := q) (n := p.length + 1 + k) hy (by simp)]; rfl
  have g2 : ((p ++ [x] ++ b ++ q).map row_api_Series)[p.length]? = some [.v (.string (toB (x).1)), .v (.int .i64 (x).2.1), .v (.int .i64 (x).2.2.1), .sl 2 ((x).2.2.2.map numT)] := by rw [List.getElem?_map, get_a (p := p) (a := [x]) (b := b) (q := q) (n := p.length) (k := 0) (y := x) rfl rfl]; rfl
  have ia : ((p.length + 1 + k : Nat) : Int) < (L : Int) := by omega
  have ib : (p.length : Int) < (L : Int) := by omega
  have ek : IntKind.i64.wrap (((p.length + 1 + k : Nat) : Int) + 1) = ((p.length + 1 + (k + 1) : Nat) : Int) := by rw [wrap_i64_of (by omega) (by omega)]; omega
  generalize hdm : (p ++ [x] ++ b ++ q).map row_api_Series = dm at *
  cases hl2 : decide (c y x < 0)
  ·have hl3 : lt_api_Series c y x = false := hl2
   simp only [go_sem, s_slices_symMergeCmpFunc_api_Series_b0, d2, h1, h2, h3, ia, ib, g1, g2]
   refine Cl_plain (hcc) ?_
   simp only [go_sem, hl2]
   exact rd_of (s, k) (by first | omega | (simp only; omega)) ⟨hk1, by simp only; omega, hs, fun z hz => by simp only at hz; rw [hy] at hz; injection hz with hz; rw [← hz]; exact hl3⟩ (sR [] [])
  ·have hl3 : lt_api_Series c y x = true := hl2
   simp only [go_sem, s_slices_symMergeCmpFunc_api_Series_b0, d2, h1, h2, h3, ia, ib, g1, g2]
   refine Cl_plain (hcc) ?_
   simp only [go_sem, hl2, ek]
   have hnew : ∀ i z, i + 1 = k + 1 → b[i]? = some z → lt_api_Series c z x = true := by
    intro i z hi hz
    obtain rfl : i = k := by omega
    rw [hy] at hz; injection hz with hz; rw [← hz]; exact hl3
   exact rd_of (k + 1, t) (by first | omega | (simp only; omega)) ⟨hk2, htb, hnew, ht⟩ (sR [] [])
 ·obtain rfl : s = t := by omega
  have d2 : decide (p.length + 1 + s < p.length + 1 + s) = false := decide_eq_false (by omega)
  obtain ⟨b1, b2, rfl, rfl⟩ := split_at htb
  have hmrg : mrg (lt_api_Series c) [x] (b1 ++ b2) = b1 ++ x :: b2 := by
   refine mrg_one_left hO x sb (fun y hy => ?_) (fun y hy => ?_)
   ·obtain ⟨l1, hy⟩ := last_get hy
    exact hs (b1.length - 1) y (by omega) (by rw [List.getElem?_append_left (by omega)]; exact hy)
   ·obtain ⟨l1, hy⟩ := head_get hy
    exact ht y (by rw [List.getElem?_append_right (Nat.le_refl _), Nat.sub_self]; exact hy)
  rw [hmrg]
  have eo : p ++ (b1 ++ x :: b2) ++ q = p ++ b1 ++ x :: (b2 ++ q) := by simp
  rw [eo]
  have hbl : (b1 ++ b2).length = b1.length + b2.length := List.length_append
  rw [hbl] at hLs
  have ek : IntKind.i64.wrap (((p.length + 1 + b1.length : Nat) : Int) - 1) = ((p.length + b1.length : Nat) : Int) := by rw [wrap_i64_of (by omega) (by omega)]; omega
  clear hs ht hbl hmrg
  simp only [go_sem, s_slices_symMergeCmpFunc_api_Series_b0, s_slices_symMergeCmpFunc_api_Series_t2, d2]
  refine W_loop (fun u : List Ser × List Ser => u.2.length) (fun u => b1 = u.1 ++ u.2)
   (fun u => [(0, .own 0 4 0 L r), (10, I (p.length + 1 + b1.length : Nat)), (13, I (p.length + u.1.length : Nat))])
   (fun u => [(0, .row 4 true ((p ++ u.1 ++ x :: (u.2 ++ b2 ++ q)).map row_api_Series))]) ([], b1) rfl ?_ ?_
  ·have e2 : p ++ [x] ++ (b1 ++ b2) ++ q = p ++ [] ++ x :: (b1 ++ b2 ++ q) := by simp
   rw [e2]
   exact (sR [] [])
  ·rintro ⟨u1, u2⟩ hu
   simp only at hu ⊢
   cases u2 with
   | nil =>
    rw [List.append_nil] at hu
    subst hu
    have d3 : decide (p.length + b1.length < p.length + b1.length) = false := decide_eq_false (by omega)
    have e2 : p ++ b1 ++ x :: ([] ++ b2 ++ q) = p ++ b1 ++ x :: (b2 ++ q) := by simp
    rw [e2]
    simp only [go_sem, s_slices_symMergeCmpFunc_api_Series_b1, ek, d3]
    refine wO [] [] ?_
    simp only [go_sem, r_slices_symMergeCmpFunc_api_Series, exists_eq_left', Option.some.injEq]
    simp [wkV, wkL, slTrees, AV.asOwn, rowPart, stoOf, AV.isNil, shA, rowsT, cellsT, cellT, ren]
   | cons y u2 =>
    have hbl : b1.length = u1.length + (u2.length + 1) := by rw [hu]; simp
    have d3 : decide (p.length + u1.length < p.length + b1.length) = true := decide_eq_true (by omega)
    obtain ⟨g1, g2, _, _, g3, g4⟩ := sw_step (p ++ u1) x y (u2 ++ b2 ++ q) (n := p.length + u1.length) (m := p.length + (u1.length + 1)) (by simp) (by omega)
    have e2 : p ++ u1 ++ x :: (y :: u2 ++ b2 ++ q) = p ++ u1 ++ x :: y :: (u2 ++ b2 ++ q) := by simp
    rw [e2]
    have em : IntKind.i64.wrap (((p.length + u1.length : Nat) : Int) + 1) = ((p.length + (u1.length + 1) : Nat) : Int) := by rw [wrap_i64_of (by omega) (by omega)]; omega
    have ia : ((p.length + u1.length : Nat) : Int) < (L : Int) := by omega
    have ib : ((p.length + (u1.length + 1) : Nat) : Int) < (L : Int) := by omega
    have hnx : (((p ++ u1 ++ x :: y :: (u2 ++ b2 ++ q)).map row_api_Series).set (p.length + u1.length) [.v (.string (toB (y).1)), .v (.int .i64 (y).2.1), .v (.int .i64 (y).2.2.1), .sl 2 ((y).2.2.2.map numT)]).set (p.length + (u1.length + 1)) [.v (.string (toB (x).1)), .v (.int .i64 (x).2.1), .v (.int .i64 (x).2.2.1), .sl 2 ((x).2.2.2.map numT)] = (p ++ u1 ++ y :: x :: (u2 ++ b2 ++ q)).map row_api_Series := by
     rw [← g4, List.map_set, List.map_set]; rfl
    have h3 : (((p ++ u1 ++ x :: y :: (u2 ++ b2 ++ q)).map row_api_Series).set (p.length + u1.length) [.v (.string (toB (y).1)), .v (.int .i64 (y).2.1), .v (.int .i64 (y).2.2.1), .sl 2 ((y).2.2.2.map numT)])[p.length + (u1.length + 1)]? = some [.v (.string (toB (y).1)), .v (.int .i64 (y).2.1), .v (.int .i64 (y).2.2.1), .sl 2 ((y).2.2.2.map numT)] := by
     have := congrArg (Option.map row_api_Series) g3
     rw [← List.getElem?_map, List.map_set] at this
     exact this
    have h1 : ((p ++ u1 ++ x :: y :: (u2 ++ b2 ++ q)).map row_api_Series)[p.length + u1.length]? = some [.v (.string (toB (x).1)), .v (.int .i64 (x).2.1), .v (.int .i64 (x).2.2.1), .sl 2 ((x).2.2.2.map numT)] := by rw [List.getElem?_map, g1]; rfl
    have h2 : ((p ++ u1 ++ x :: y :: (u2 ++ b2 ++ q)).map row_api_Series)[p.length + (u1.length + 1)]? = some [.v (.string (toB (y).1)), .v (.int .i64 (y).2.1), .v (.int .i64 (y).2.2.1), .sl 2 ((y).2.2.2.map numT)] := by rw [List.getElem?_map, g2]; rfl
    generalize hdm : List.map row_api_Series (p ++ u1 ++ x :: y :: (u2 ++ b2 ++ q)) = dm at *
    simp only [go_sem, s_slices_symMergeCmpFunc_api_Series_b1, ek, d3, em, ia, ib, h1, h2, h3, hnx]
    refine rd_of (u1 ++ [y], u2) (by simp) (by simp only; rw [hu]; simp) ?_
    have e3 : p ++ u1 ++ y :: x :: (u2 ++ b2 ++ q) = p ++ (u1 ++ [y]) ++ x :: (u2 ++ b2 ++ q) := by simp
    rw [e3]
    simp only [List.length_append, List.length_cons, List.length_nil, Nat.zero_add]
    exact (sR [] [])

end Go.Proofs.YtgmpceijcdimkaaGreatDoor
namespace Go.Proofs.YtgmpceijcdimkaaGreatDoor
open Go Go.Sx

set_option maxHeartbeats 1000000 in
theorem f_sym2_api_Series (g L : Nat) (r : Bool)  (c : Ser → Ser → Int) (D : Ser → Prop) (hc : ∀ x y, D x → D y → Meets Tryz.prog E0 g ([(.ag [Str (toB (x).1), I (x).2.1, I (x).2.2.1, numL (x).2.2.2]), (.ag [Str (toB (y).1), I (y).2.1, I (y).2.2.1, numL (y).2.2.2])] ++ []) [] (I (c x y)) []) (hO : Below3 (lt_api_Series c))
  (p a q : List Ser) (y : Ser) (ha1 : a.length ≠ 1) (ha0 : a ≠ []) (hy : D y) (ha : ∀ x ∈ a, D x) (sa : Srt (lt_api_Series c) a) (hL : L = (p ++ a ++ [y] ++ q).length) (hLb : L ≤ 281474976710656) :
  Meets Tryz.prog E0 n_slices_symMergeCmpFunc_api_Series [.own 0 4 0 L r, I p.length, I (p.length + a.length : Nat), I (p.length + a.length + 1 : Nat), .fn g [] []] [(0, .row 4 true ((p ++ a ++ [y] ++ q).map row_api_Series))] (.tp []) [(0, .row 4 true ((p ++ mrg (lt_api_Series c) a [y] ++ q).map row_api_Series))] := by
 have hLs : L = p.length + a.length + 1 + q.length := by rw [hL]; simp only [List.length_append, List.length_cons, List.length_nil]
 obtain ⟨M, hM⟩ : ∃ M, p.length + a.length = M := ⟨_, rfl⟩
 rw [hM]
 have ha0' : 0 < a.length := List.length_pos_iff.2 ha0
 refine m_slices_symMergeCmpFunc_api_Series (by simp) (shut_of (by simp [idsL, AV.ids, keysOf]) (by simp [Ob.live, Ob.ids, keysOf, idsL, AV.ids])) (shut_of (by simp [idsL, AV.ids, keysOf]) (by simp [Ob.live, Ob.ids, keysOf, idsL, AV.ids])) (by simp [keysOf]) (by simp [keysOf]) ?_
 have e1 : IntKind.i64.wrap ((M : Int) - (p.length : Int)) = (a.length : Int) := by rw [wrap_i64_of (by omega) (by omega)]; omega
 have d1 : decide ((a.length : Int) = 1) = false := decide_eq_false (by omega)
 have e2 : IntKind.i64.wrap (((M + 1 : Nat) : Int) - (M : Int)) = 1 := by rw [wrap_i64_of (by omega) (by omega)]; omega
 have d2 : decide ((1 : Int) = 1) = true := rfl
 simp only [go_sem, s_slices_symMergeCmpFunc_api_Series, s_slices_symMergeCmpFunc_api_Series_t9, e1, d1, e2, d2]
 refine W_loop (fun s : Nat × Nat => s.2 - s.1) (fun s => s.1 ≤ s.2 ∧ s.2 ≤ a.length ∧ (∀ i z, i + 1 = s.1 → a[i]? = some z → lt_api_Series c y z = false) ∧ (∀ z, a[s.2]? = some z → lt_api_Series c y z = true))
  (fun s => [(0, .own 0 4 0 L r), (1, I p.length), (2, I M), (4, .fn g [] []), (14, I (p.length + s.1 : Nat)), (15, I (p.length + s.2 : Nat))])
  (fun s => [(0, .row 4 true ((p ++ a ++ [y] ++ q).map row_api_Series))]) (0, a.length) ⟨Nat.zero_le _, Nat.le_refl _, by omega, fun y h => by simp at h⟩ ?_ ?_
 ·simp only [hM, Nat.add_zero]
  exact (sR [] [])
 rintro ⟨s, t⟩ ⟨hst, hta, hs, ht⟩
 simp only at hst hta hs ht ⊢
 by_cases hlt : s < t
 ·have d2 : decide (p.length + s < p.length + t) = true := decide_eq_true (by omega)
  obtain ⟨h1, h2, h3⟩ := half_api_Series (x := p.length + s) (y := p.length + t) (by omega)
  have hh : (p.length + s + (p.length + t)) / 2 = p.length + (s + t) / 2 := by omega
  rw [hh] at h3
  have hk1 : s ≤ (s + t) / 2 := by omega
  have hk2 : (s + t) / 2 < t := by omega
  generalize (s + t) / 2 = k at *
  obtain ⟨z, hz, hzm⟩ := get_some (show k < a.length by omega)
  have hcc := hc y z hy (ha z hzm)
  have g1 : ((p ++ a ++ [y] ++ q).map row_api_Series)[M]? = some [.v (.string (toB (y).1)), .v (.int .i64 (y).2.1), .v (.int .i64 (y).2.2.1), .sl 2 ((y).2.2.2.map numT)] := by rw [List.getElem?_map, get_b (p := p) (a := a) (b := [y]) (q := q) (n := M) (k := 0) (y := y) rfl (by omega)]; rfl
  have g2 : ((p ++ a ++ [y] ++ q).map row_api_Series)[p.length + k]? = some [.v (.string (toB (z).1)), .v (.int .i64 (z).2.1), .v (.int .i64 (z).2.2.1), .sl 2 ((z).2.2.2.map numT)] := by rw [List.getElem?_map, get_a (p := p) (a := a) (b := [y]) (q := q) (n := p.length + k) hz rfl]; rfl
  have ia : ((p.length + k : Nat) : Int) < (L : Int) := by omega
  have ib : (M : Int) < (L : Int) := by omega
  have ek : IntKind.i64.wrap (((p.length + k : Nat) : Int) + 1) = ((p.length + (k + 1) : Nat) : Int) := by rw [wrap_i64_of (by omega) (by omega)]; omega
  generalize hdm : (p ++ a ++ [y] ++ q).map row_api_Series = dm at *
  cases hl2 : decide (c y z < 0)
  ·have hl3 : lt_api_Series c y z = false := hl2
   have hnew : ∀ i x, i + 1 = k + 1 → a[i]? = some x → lt_api_Series c y x = false := by
    intro i x hi hx
    obtain rfl : i = k := by omega
    rw [hz] at hx; injection hx with hx; rw [← hx]; exact hl3
   simp only [go_sem, s_slices_symMergeCmpFunc_api_Series_b3, d2, h1, h2, h3, ia, ib, g1, g2]
   refine Cl_plain (hcc) ?_
   simp only [go_sem, hl2, ek]
   exact rd_of (k + 1, t) (by first | omega | (simp only; omega)) ⟨hk2, hta, hnew, ht⟩ (sR [] [])
  ·have hl3 : lt_api_Series c y z = true := hl2
   have hnew : ∀ x, a[k]? = some x → lt_api_Series c y x = true := by
    intro x hx
    rw [hz] at hx; injection hx with hx; rw [← hx]; exact hl3
   simp only [go_sem, s_slices_symMergeCmpFunc_api_Series_b3, d2, h1, h2, h3, ia, ib, g1, g2]
   refine Cl_plain (hcc) ?_
   simp only [go_sem, hl2]
   exact rd_of (s, k) (by first | omega | (simp only; omega)) ⟨hk1, by simp only; omega, hs, hnew⟩ (sR [] [])
 ·obtain rfl : s = t := by omega
  have d2 : decide (p.length + s < p.length + s) = false := decide_eq_false (by omega)
  obtain ⟨a1, a2, rfl, rfl⟩ := split_at hta
  have hmrg : mrg (lt_api_Series c) (a1 ++ a2) [y] = a1 ++ y :: a2 := by
   refine mrg_one_right hO y sa (fun z hz => ?_) (fun z hz => ?_)
   ·obtain ⟨l1, hz⟩ := last_get hz
    exact hs (a1.length - 1) z (by omega) (by rw [List.getElem?_append_left (by omega)]; exact hz)
   ·obtain ⟨l1, hz⟩ := head_get hz
    exact ht z (by rw [List.getElem?_append_right (Nat.le_refl _), Nat.sub_self]; exact hz)
  rw [hmrg]
  have eo : p ++ (a1 ++ y :: a2) ++ q = p ++ a1 ++ y :: (a2 ++ q) := by simp
  rw [eo]
  have hal : (a1 ++ a2).length = a1.length + a2.length := List.length_append
  rw [hal] at hLs hM
  clear hs ht hal hmrg e1 d1 ha0' ha1 hta
  simp only [go_sem, s_slices_symMergeCmpFunc_api_Series_b3, s_slices_symMergeCmpFunc_api_Series_t5, d2]
  refine W_loop (fun u : List Ser × List Ser => u.1.length) (fun u => a2 = u.1 ++ u.2)
   (fun u => [(0, .own 0 4 0 L r), (14, I (p.length + a1.length : Nat)), (17, I (p.length + a1.length + u.1.length : Nat))])
   (fun u => [(0, .row 4 true ((p ++ a1 ++ u.1 ++ y :: (u.2 ++ q)).map row_api_Series))]) (a2, []) (by simp) ?_ ?_
  ·have e2 : p ++ (a1 ++ a2) ++ [y] ++ q = p ++ a1 ++ a2 ++ y :: ([] ++ q) := by simp
   rw [e2, ← hM]
   simp only [Nat.add_assoc]
   exact (sR [] [])
  ·rintro ⟨u1, u2⟩ hu
   simp only at hu ⊢
   rcases nil_or_snoc u1 with rfl | ⟨u1, z, rfl⟩
   ·rw [List.nil_append] at hu
    subst hu
    have d3 : decide (p.length + a1.length < p.length + a1.length) = false := decide_eq_false (by omega)
    simp only [List.append_nil, List.length_nil, Nat.add_zero]
    simp only [go_sem, s_slices_symMergeCmpFunc_api_Series_b4, d3]
    refine wO [] [] ?_
    simp only [go_sem, r_slices_symMergeCmpFunc_api_Series, exists_eq_left', Option.some.injEq]
    simp [wkV, wkL, slTrees, AV.asOwn, rowPart, stoOf, AV.isNil, shA, rowsT, cellsT, cellT, ren]
   ·have hal : a2.length = u1.length + 1 + u2.length := by rw [hu]; simp; omega
    have hl1 : (u1 ++ [z]).length = u1.length + 1 := by simp
    simp only [hl1]
    have d3 : decide (p.length + a1.length < p.length + a1.length + (u1.length + 1)) = true := decide_eq_true (by omega)
    obtain ⟨g1, g2, g3, g4, _⟩ := sw_step (p ++ a1 ++ u1) z y (u2 ++ q) (n := p.length + a1.length + u1.length) (m := p.length + a1.length + (u1.length + 1)) (by simp; omega) (by omega)
    have e2 : p ++ a1 ++ (u1 ++ [z]) ++ y :: (u2 ++ q) = p ++ a1 ++ u1 ++ z :: y :: (u2 ++ q) := by simp
    rw [e2]
    have em : IntKind.i64.wrap (((p.length + a1.length + (u1.length + 1) : Nat) : Int) - 1) = ((p.length + a1.length + u1.length : Nat) : Int) := by rw [wrap_i64_of (by omega) (by omega)]; omega
    have ia : ((p.length + a1.length + u1.length : Nat) : Int) < (L : Int) := by omega
    have ib : ((p.length + a1.length + (u1.length + 1) : Nat) : Int) < (L : Int) := by omega
    have hnx : (((p ++ a1 ++ u1 ++ z :: y :: (u2 ++ q)).map row_api_Series).set (p.length + a1.length + (u1.length + 1)) [.v (.string (toB (z).1)), .v (.int .i64 (z).2.1), .v (.int .i64 (z).2.2.1), .sl 2 ((z).2.2.2.map numT)]).set (p.length + a1.length + u1.length) [.v (.string (toB (y).1)), .v (.int .i64 (y).2.1), .v (.int .i64 (y).2.2.1), .sl 2 ((y).2.2.2.map numT)] = (p ++ a1 ++ u1 ++ y :: z :: (u2 ++ q)).map row_api_Series := by
     rw [← g4, List.map_set, List.map_set]; rfl
    have h3 : (((p ++ a1 ++ u1 ++ z :: y :: (u2 ++ q)).map row_api_Series).set (p.length + a1.length + (u1.length + 1)) [.v (.string (toB (z).1)), .v (.int .i64 (z).2.1), .v (.int .i64 (z).2.2.1), .sl 2 ((z).2.2.2.map numT)])[p.length + a1.length + u1.length]? = some [.v (.string (toB (z).1)), .v (.int .i64 (z).2.1), .v (.int .i64 (z).2.2.1), .sl 2 ((z).2.2.2.map numT)] := by
     have := congrArg (Option.map row_api_Series) g3
     rw [← List.getElem?_map, List.map_set] at this
     exact this
    have h1 : ((p ++ a1 ++ u1 ++ z :: y :: (u2 ++ q)).map row_api_Series)[p.length + a1.length + u1.length]? = some [.v (.string (toB (z).1)), .v (.int .i64 (z).2.1), .v (.int .i64 (z).2.2.1), .sl 2 ((z).2.2.2.map numT)] := by rw [List.getElem?_map, g1]; rfl
    have h2 : ((p ++ a1 ++ u1 ++ z :: y :: (u2 ++ q)).map row_api_Series)[p.length + a1.length + (u1.length + 1)]? = some [.v (.string (toB (y).1)), .v (.int .i64 (y).2.1), .v (.int .i64 (y).2.2.1), .sl 2 ((y).2.2.2.map numT)] := by rw [List.getElem?_map, g2]; rfl
    generalize hdm : List.map row_api_Series (p ++ a1 ++ u1 ++ z :: y :: (u2 ++ q)) = dm at *
    simp only [go_sem, s_slices_symMergeCmpFunc_api_Series_b4, d3, em, ia, ib, h1, h2, h3, hnx]
    refine rd_of (u1, z :: u2) (by simp) (by simp only; rw [hu]; simp) ?_
    exact (sR [] [])

end Go.Proofs.YtgmpceijcdimkaaGreatDoor
namespace Go.Proofs.YtgmpceijcdimkaaGreatDoor
open Go Go.Sx

set_option maxHeartbeats 4000000 in
theorem sym_tail_api_Series (io : List Nat) (Q : Exit → St → Prop) (k : List Kt) (env : List (Nat × AV)) (g L : Nat) (r : Bool)  (P M N P1 E1 H Z0 : Nat) (D1 D2 D3 D4 : List Ser) (v1 v2 w1 w2 : Bool)
  (e0 : lk 0 env = .own 0 4 0 L r) (e1 : lk 1 env = I P) (e2 : lk 2 env = I M) (e3 : lk 3 env = I N) (e4 : lk 4 env = .fn g [] []) (e18 : lk 18 env = I H) (e19 : lk 19 env = I Z0) (e20 : lk 20 env = I P1)
  (ee : IntKind.i64.wrap ((Z0 : Int) - (P1 : Int)) = (E1 : Int))
  (x1 : decide (P1 < M) = !v2) (x2 : decide (M < E1) = !w1) (x3 : decide (P < P1) = !v1) (x4 : decide (P1 < H) = !w1) (x5 : decide (H < E1) = !v2) (x6 : decide (E1 < N) = !w2)
  (hr : v2 = false → w1 = false → Meets Tryz.prog E0 n_slices_rotateCmpFunc_api_Series [.own 0 4 0 L r, I P1, I M, I E1, .fn g [] []] [(0, .row 4 true (D1.map row_api_Series))] (.tp []) [(0, .row 4 true (D2.map row_api_Series))])
  (i1 : v1 = false → w1 = false → Meets Tryz.prog E0 n_slices_symMergeCmpFunc_api_Series [.own 0 4 0 L r, I P, I P1, I H, .fn g [] []] [(0, .row 4 true (D2.map row_api_Series))] (.tp []) [(0, .row 4 true (D3.map row_api_Series))])
  (i2 : v2 = false → w2 = false → Meets Tryz.prog E0 n_slices_symMergeCmpFunc_api_Series [.own 0 4 0 L r, I H, I E1, I N, .fn g [] []] [(0, .row 4 true (D3.map row_api_Series))] (.tp []) [(0, .row 4 true (D4.map row_api_Series))])
  (r1 : (v2 || w1) = true → D1 = D2) (r2 : (v1 || w1) = true → D2 = D3) (r3 : (v2 || w2) = true → D3 = D4)
  (hend : ∀ env tl, B Tryz.prog E0 io Q k .normal env ((0, .row 4 true (D4.map row_api_Series)) :: tl)) :
  W Tryz.prog E0 io Q s_slices_symMergeCmpFunc_api_Series_t7 k env [(0, .row 4 true (D1.map row_api_Series))] := by
 cases v2 <;> cases w1 <;> simp only [Bool.not_true, Bool.not_false] at x1 x2 x4 x5
 case' false.false =>
  simp only [go_sem, s_slices_symMergeCmpFunc_api_Series_t7, e0, e1, e2, e3, e4, e18, e19, e20, ee, x1, x2]
  refine oB (hr rfl rfl) ?_
  simp only [go_sem]
 case' false.true =>
  have := r1 rfl; subst this
  simp only [go_sem, s_slices_symMergeCmpFunc_api_Series_t7, e0, e1, e2, e3, e4, e18, e19, e20, ee, x1, x2]
 case' true.false =>
  have := r1 rfl; subst this
  simp only [go_sem, s_slices_symMergeCmpFunc_api_Series_t7, e0, e1, e2, e3, e4, e18, e19, e20, ee, x1, x2]
 case' true.true =>
  have := r1 rfl; subst this
  simp only [go_sem, s_slices_symMergeCmpFunc_api_Series_t7, e0, e1, e2, e3, e4, e18, e19, e20, ee, x1, x2]
 all_goals
  cases v1 <;> simp only [Bool.not_true, Bool.not_false] at x3
  all_goals
   (try (have r2' := r2 rfl; subst r2'))
   simp only [go_sem, x3, x4]
   try (refine oB (i1 rfl rfl) ?_; simp only [go_sem])
  all_goals
   cases w2 <;> simp only [Bool.not_true, Bool.not_false] at x6
   all_goals
    (try (have r3' := r3 rfl; subst r3'))
    simp only [go_sem, x5, x6]
    try (refine oB (i2 rfl rfl) ?_; simp only [go_sem])
   all_goals exact hend _ _

set_option maxHeartbeats 4000000 in
theorem f_sym3_api_Series (g L : Nat) (r : Bool)  (c : Ser → Ser → Int) (D : Ser → Prop) (hc : ∀ x y, D x → D y → Meets Tryz.prog E0 g ([(.ag [Str (toB (x).1), I (x).2.1, I (x).2.2.1, numL (x).2.2.2]), (.ag [Str (toB (y).1), I (y).2.1, I (y).2.2.1, numL (y).2.2.2])] ++ []) [] (I (c x y)) []) (hO : Below3 (lt_api_Series c))
  (p a b q : List Ser) (ha1 : a.length ≠ 1) (ha0 : a ≠ []) (hb1 : b.length ≠ 1) (hb0 : b ≠ []) (ha : ∀ x ∈ a, D x) (hb : ∀ x ∈ b, D x) (sa : Srt (lt_api_Series c) a) (sb : Srt (lt_api_Series c) b) (hL : L = (p ++ a ++ b ++ q).length) (hLb : L ≤ 281474976710656)
  (ih : ∀ p' a' b' q' : List Ser, a'.length + b'.length < a.length + b.length → a' ≠ [] → b' ≠ [] → (∀ x ∈ a', D x) → (∀ x ∈ b', D x) → Srt (lt_api_Series c) a' → Srt (lt_api_Series c) b' → L = (p' ++ a' ++ b' ++ q').length →
   Meets Tryz.prog E0 n_slices_symMergeCmpFunc_api_Series [.own 0 4 0 L r, I p'.length, I (p'.length + a'.length : Nat), I (p'.length + a'.length + b'.length : Nat), .fn g [] []] [(0, .row 4 true ((p' ++ a' ++ b' ++ q').map row_api_Series))] (.tp []) [(0, .row 4 true ((p' ++ mrg (lt_api_Series c) a' b' ++ q').map row_api_Series))]) :
  Meets Tryz.prog E0 n_slices_symMergeCmpFunc_api_Series [.own 0 4 0 L r, I p.length, I (p.length + a.length : Nat), I (p.length + a.length + b.length : Nat), .fn g [] []] [(0, .row 4 true ((p ++ a ++ b ++ q).map row_api_Series))] (.tp []) [(0, .row 4 true ((p ++ mrg (lt_api_Series c) a b ++ q).map row_api_Series))] := by
 have hLs : L = p.length + a.length + b.length + q.length := by rw [hL]; simp only [List.length_append]
 obtain ⟨P, hP⟩ : ∃ P, p.length = P := ⟨_, rfl⟩
 obtain ⟨M, hM⟩ : ∃ M, P + a.length = M := ⟨_, rfl⟩
 obtain ⟨N, hN⟩ : ∃ N, M + b.length = N := ⟨_, rfl⟩
 rw [hP] at hLs ⊢
 rw [hM, hN]
 have ha0' : 0 < a.length := List.length_pos_iff.2 ha0
 have hb0' : 0 < b.length := List.length_pos_iff.2 hb0
 obtain ⟨h, hh⟩ : ∃ h, (a.length + b.length) / 2 = h := ⟨_, rfl⟩
 refine m_slices_symMergeCmpFunc_api_Series (by simp) (shut_of (by simp [idsL, AV.ids, keysOf]) (by simp [Ob.live, Ob.ids, keysOf, idsL, AV.ids])) (shut_of (by simp [idsL, AV.ids, keysOf]) (by simp [Ob.live, Ob.ids, keysOf, idsL, AV.ids])) (by simp [keysOf]) (by simp [keysOf]) ?_
 have e1 : IntKind.i64.wrap ((M : Int) - (P : Int)) = (a.length : Int) := wsub hM.symm (by omega)
 have d1 : decide ((a.length : Int) = 1) = false := decide_eq_false (by omega)
 have e2 : IntKind.i64.wrap ((N : Int) - (M : Int)) = (b.length : Int) := wsub hN.symm (by omega)
 have d2 : decide ((b.length : Int) = 1) = false := decide_eq_false (by omega)
 obtain ⟨q1, q2, q3⟩ := half_api_Series (x := P) (y := N) (by omega)
 have q4 : (P + N) / 2 = P + h := by omega
 rw [q4] at q3
 have e3 : IntKind.i64.wrap (((P + h : Nat) : Int) + (M : Int)) = ((P + h + M : Nat) : Int) := wadd rfl (by omega)
 obtain ⟨Z, hZ⟩ : ∃ Z, P + h + M = Z + 1 := ⟨P + h + M - 1, by omega⟩
 have e4 : IntKind.i64.wrap (((P + h + M : Nat) : Int) - 1) = (Z : Int) := wsub1 hZ (by omega)
 obtain ⟨lo, hi, hlohi, hl1, hl2, hl3, hl4, hl5, hcase⟩ : ∃ lo hi : Nat, lo ≤ hi ∧ hi ≤ a.length ∧ hi ≤ h ∧ h ≤ lo + b.length ∧ Hid (lo = 0 ∨ h = lo + b.length) ∧ Hid (hi = a.length ∨ hi = h) ∧
   ((decide (P + h < M) = true ∧ IntKind.i64.wrap (((P + h + M : Nat) : Int) - (N : Int)) = ((P + lo : Nat) : Int) ∧ P + h = P + hi) ∨ (decide (P + h < M) = false ∧ P = P + lo ∧ M = P + hi)) := by
  by_cases hc : h < a.length
  ·refine ⟨h - b.length, h, by omega, by omega, by omega, by omega, .inr (by omega), .inr rfl, .inl ⟨decide_eq_true (by omega), ?_, rfl⟩⟩
   exact wsub (by omega) (by omega)
  ·exact ⟨0, a.length, by omega, by omega, by omega, by omega, .inl rfl, .inl rfl, .inr ⟨decide_eq_false (by omega), by omega, by omega⟩⟩
 have hML : M ≤ L := by clear d1 d2 e1 e2 q1 q2 q3 q4 e3 e4 hcase ha1 hb1; omega
 have hNL : N ≤ L := by clear d1 d2 e1 e2 q1 q2 q3 q4 e3 e4 hcase ha1 hb1; omega
 have hhn : h < a.length + b.length := by clear d1 d2 e1 e2 q1 q2 q3 q4 e3 e4 hcase ha1 hb1; omega
 have hh0 : 0 < h := by clear d1 d2 e1 e2 q1 q2 q3 q4 e3 e4 hcase; omega
 have hZb : Z + 1 ≤ 9007199254740992 := by clear d1 d2 e1 e2 q1 q2 q3 q4 e3 e4 hcase ha1 hb1; omega
 clear ha1 hb1 ha0' hb0' hLs
 rcases hcase with ⟨c1, c2, c3⟩ | ⟨c1, c2, c3⟩
 case' inl =>
  simp only [go_sem, s_slices_symMergeCmpFunc_api_Series, s_slices_symMergeCmpFunc_api_Series_t9, s_slices_symMergeCmpFunc_api_Series_t8, e1, d1, e2, d2, q1, q2, q3, e3, e4, c1, c2]
 case' inr =>
  simp only [go_sem, s_slices_symMergeCmpFunc_api_Series, s_slices_symMergeCmpFunc_api_Series_t9, s_slices_symMergeCmpFunc_api_Series_t8, e1, d1, e2, d2, q1, q2, q3, e3, e4, c1]
 all_goals
  refine W_loop (fun s : Nat × Nat => s.2 - s.1) (fun s => lo ≤ s.1 ∧ s.1 ≤ s.2 ∧ s.2 ≤ hi ∧ Hid (s.1 = lo ∨ ∃ y z, a[s.1 - 1]? = some z ∧ b[h - s.1]? = some y ∧ lt_api_Series c y z = false) ∧ Hid (s.2 = hi ∨ ∃ y z, a[s.2]? = some z ∧ b[h - 1 - s.2]? = some y ∧ lt_api_Series c y z = true))
   (fun s => [(0, .own 0 4 0 L r), (1, I P), (2, I M), (3, I N), (4, .fn g [] []), (18, I (P + h : Nat)), (19, I (P + h + M : Nat)), (20, I (P + s.1 : Nat)), (21, I (P + s.2 : Nat)), (22, I Z)])
   (fun s => [(0, .row 4 true ((p ++ a ++ b ++ q).map row_api_Series))]) (lo, hi) ⟨Nat.le_refl _, hlohi, Nat.le_refl _, .inl rfl, .inl rfl⟩ ?_ ?_
 case inl.refine_1 =>
  simp only [← c3]
  exact (sR [] [])
 case inr.refine_1 =>
  simp only [← c2, ← c3]
  exact (sR [] [])
 all_goals
  clear c1 c2 c3
  rintro ⟨s, t⟩ ⟨hs0, hst, ht0, hs, ht⟩
  simp only at hs0 hst ht0 hs ht ⊢
  by_cases hlt : s < t
  ·have d3 : decide (P + s < P + t) = true := decide_eq_true (Nat.add_lt_add_left hlt P)
   obtain ⟨h1, h2, h3⟩ := half_api_Series (x := P + s) (y := P + t) (sy5 hlt (Nat.le_trans ht0 hl1) hM (Nat.le_trans hML hLb))
   rw [sy2] at h3
   obtain ⟨hk1, hk2⟩ := sy3 hlt
   generalize (s + t) / 2 = k at *
   have hka : k < a.length := Nat.lt_of_lt_of_le hk2 (Nat.le_trans ht0 hl1)
   have hkh : k < h := Nat.lt_of_lt_of_le hk2 (Nat.le_trans ht0 hl2)
   have hlk : lo ≤ k := Nat.le_trans hs0 hk1
   have hkb := sy1 hlk hkh hl3
   obtain ⟨z, hz, hzm⟩ := get_some hka
   obtain ⟨y, hy, hym⟩ := get_some hkb
   have hcc := hc y z (hb y hym) (ha z hzm)
   have g1 : ((p ++ a ++ b ++ q).map row_api_Series)[M + (h - 1 - k)]? = some [.v (.string (toB (y).1)), .v (.int .i64 (y).2.1), .v (.int .i64 (y).2.2.1), .sl 2 ((y).2.2.2.map numT)] := by rw [List.getElem?_map, get_b (p := p) (a := a) (b := b) (q := q) (n := M + (h - 1 - k)) hy (by rw [hP, hM])]; rfl
   have g2 : ((p ++ a ++ b ++ q).map row_api_Series)[P + k]? = some [.v (.string (toB (z).1)), .v (.int .i64 (z).2.1), .v (.int .i64 (z).2.2.1), .sl 2 ((z).2.2.2.map numT)] := by rw [List.getElem?_map, get_a (p := p) (a := a) (b := b) (q := q) (n := P + k) hz (by rw [hP])]; rfl
   have ea : IntKind.i64.wrap ((Z : Int) - ((P + k : Nat) : Int)) = ((M + (h - 1 - k) : Nat) : Int) := wsub (sy4 hZ hkh) (Nat.le_of_succ_le hZb)
   have ia : ((M + (h - 1 - k) : Nat) : Int) < (L : Int) := sy6 hkb hN hNL
   have ib : ((P + k : Nat) : Int) < (L : Int) := sy6 hka hM hML
   have ek : IntKind.i64.wrap (((P + k : Nat) : Int) + 1) = ((P + (k + 1) : Nat) : Int) := wadd1 rfl (by clear hZ hZb hN hNL hh hhn hl1 hl2 hl3 hlk hkb hk1 hk2 hs0 hst ht0 hlt; omega)
   generalize hdm : (p ++ a ++ b ++ q).map row_api_Series = dm at *
   cases hl2 : decide (c y z < 0)
   ·have hnew : Hid (k + 1 = lo ∨ ∃ y z, a[k + 1 - 1]? = some z ∧ b[h - (k + 1)]? = some y ∧ lt_api_Series c y z = false) :=
     .inr ⟨y, z, hz, by rw [sy7 hkh]; exact hy, hl2⟩
    simp only [go_sem, s_slices_symMergeCmpFunc_api_Series_b6, d3, h1, h2, h3, ea, ia, ib, g1, g2]
    refine Cl_plain (hcc) ?_
    simp only [go_sem, hl2, ek]
    exact rd_of (k + 1, t) (Nat.sub_lt_sub_left hlt (Nat.lt_succ_of_le hk1)) ⟨Nat.le_succ_of_le hlk, hk2, ht0, hnew, ht⟩ (sR [] [])
   ·have hnew : Hid (k = hi ∨ ∃ y z, a[k]? = some z ∧ b[h - 1 - k]? = some y ∧ lt_api_Series c y z = true) := .inr ⟨y, z, hz, hy, hl2⟩
    simp only [go_sem, s_slices_symMergeCmpFunc_api_Series_b6, d3, h1, h2, h3, ea, ia, ib, g1, g2]
    refine Cl_plain (hcc) ?_
    simp only [go_sem, hl2]
    exact rd_of (s, k) (Nat.sub_lt_sub_right hk1 hk2) ⟨hs0, hk1, Nat.le_trans (Nat.le_of_lt hk2) ht0, hs, hnew⟩ (sR [] [])
  ·obtain rfl : s = t := Nat.le_antisymm hst (Nat.not_lt.1 hlt)
   have d3 : decide (P + s < P + s) = false := decide_eq_false (Nat.lt_irrefl _)
   have hsh : s ≤ h := Nat.le_trans ht0 hl2
   obtain ⟨a1, a2, rfl, rfl⟩ := split_at (Nat.le_trans ht0 hl1)
   obtain ⟨b1, b2, rfl, hu⟩ := split_at (sy8 hs0 hl3)
   have hal : (a1 ++ a2).length = a1.length + a2.length := List.length_append
   have hbl : (b1 ++ b2).length = b1.length + b2.length := List.length_append
   have hab : a1.length + b1.length = h := by rw [hu]; exact Nat.add_sub_cancel' hsh
   have hmrg : mrg (lt_api_Series c) (a1 ++ a2) (b1 ++ b2) = mrg (lt_api_Series c) a1 b1 ++ mrg (lt_api_Series c) a2 b2 := mrg_sym hO sa sb (m := h) hab (hl4.imp id fun e => e.trans (by rw [hbl])) (hl5.imp (fun e => e.trans hal) id) hs ht
   rw [hmrg]
   have ee : IntKind.i64.wrap (((P + h + M : Nat) : Int) - ((P + a1.length : Nat) : Int)) = ((M + b1.length : Nat) : Int) := wsub (sy9 hu hsh) (by rw [hZ]; exact hZb)
   rw [hal] at hM hhn
   rw [hbl] at hN hhn
   have l1 : (mrg (lt_api_Series c) a1 b1).length = h := (mrg_len _ _ _).trans hab
   have sa' := List.pairwise_append.1 sa
   have sb' := List.pairwise_append.1 sb
   clear hs ht hmrg hl4 hl5 e1 d1 e2 d2 q1 q2 q3 q4 hlohi hlt hst hs0 ht0 hl1 hl2 hl3 hZ hZb e3 e4 hh sa sb hsh hu
   have y1 : M = P + a1.length + a2.length := by rw [← hM, Nat.add_assoc]
   have y2 : P + h = P + a1.length + b1.length := by rw [← hab, Nat.add_assoc]
   have y3 : M + b1.length = P + h + a2.length := by clear hNL hLb hN hhn; omega
   have y4 : N = M + b1.length + b2.length := by rw [← hN, Nat.add_assoc]
   have x1 : decide (P + a1.length < M) = !a2.isEmpty := (dlt y1).trans len_pos
   have x2 : decide (M < M + b1.length) = !b1.isEmpty := (dlt rfl).trans len_pos
   have x3 : decide (P < P + a1.length) = !a1.isEmpty := (dlt rfl).trans len_pos
   have x4 : decide (P + a1.length < P + h) = !b1.isEmpty := (dlt y2).trans len_pos
   have x5 : decide (P + h < M + b1.length) = !a2.isEmpty := (dlt y3).trans len_pos
   have x6 : decide (M + b1.length < N) = !b2.isEmpty := (dlt y4).trans len_pos
   have hr : a2 ≠ [] → b1 ≠ [] → Meets Tryz.prog E0 n_slices_rotateCmpFunc_api_Series [.own 0 4 0 L r, I (P + a1.length : Nat), I M, I (M + b1.length : Nat), .fn g [] []] [(0, .row 4 true ((p ++ (a1 ++ a2) ++ (b1 ++ b2) ++ q).map row_api_Series))] (.tp []) [(0, .row 4 true ((p ++ a1 ++ b1 ++ (a2 ++ b2 ++ q)).map row_api_Series))] := by
    intro n1 n2
    have := f_rotate_api_Series g L r  (p ++ a1) a2 b1 (b2 ++ q) n1 n2 (by rw [hL]; simp) hLb
    rw [show (p ++ a1).length = P + a1.length by simp [hP], ← y1] at this
    rw [show p ++ (a1 ++ a2) ++ (b1 ++ b2) ++ q = p ++ a1 ++ a2 ++ b1 ++ (b2 ++ q) by simp, show p ++ a1 ++ b1 ++ (a2 ++ b2 ++ q) = p ++ a1 ++ b1 ++ a2 ++ (b2 ++ q) by simp]
    exact this
   have i1 : a1 ≠ [] → b1 ≠ [] → Meets Tryz.prog E0 n_slices_symMergeCmpFunc_api_Series [.own 0 4 0 L r, I P, I (P + a1.length : Nat), I (P + h : Nat), .fn g [] []] [(0, .row 4 true ((p ++ a1 ++ b1 ++ (a2 ++ b2 ++ q)).map row_api_Series))] (.tp []) [(0, .row 4 true ((p ++ mrg (lt_api_Series c) a1 b1 ++ (a2 ++ b2 ++ q)).map row_api_Series))] := by
    intro n1 n2
    have := ih p a1 b1 (a2 ++ b2 ++ q) (by rw [hab, hal, hbl]; exact hhn) n1 n2 (fun x hx => ha x (by simp [hx])) (fun x hx => hb x (by simp [hx])) sa'.1 sb'.1 (hL.trans (len_swap ..))
    rw [hP, ← y2] at this
    exact this
   have i2 : a2 ≠ [] → b2 ≠ [] → Meets Tryz.prog E0 n_slices_symMergeCmpFunc_api_Series [.own 0 4 0 L r, I (P + h : Nat), I (M + b1.length : Nat), I N, .fn g [] []] [(0, .row 4 true ((p ++ mrg (lt_api_Series c) a1 b1 ++ (a2 ++ b2 ++ q)).map row_api_Series))] (.tp []) [(0, .row 4 true ((p ++ (mrg (lt_api_Series c) a1 b1 ++ mrg (lt_api_Series c) a2 b2) ++ q).map row_api_Series))] := by
    intro n1 n2
    have n3 := List.length_pos_iff.2 n1
    have n4 := List.length_pos_iff.2 n2
    have := ih (p ++ mrg (lt_api_Series c) a1 b1) a2 b2 q (by rw [hal, hbl]; clear hNL hLb hN hM y1 y2 y3 y4 hhn; omega) n1 n2 (fun x hx => ha x (by simp [hx])) (fun x hx => hb x (by simp [hx])) sa'.2.1 sb'.2.1 (hL.trans (len_swap2 (lt_api_Series c) ..))
    rw [show (p ++ mrg (lt_api_Series c) a1 b1).length = P + h by rw [List.length_append, hP, l1], ← y3, ← y4] at this
    rw [show p ++ mrg (lt_api_Series c) a1 b1 ++ (a2 ++ b2 ++ q) = p ++ mrg (lt_api_Series c) a1 b1 ++ a2 ++ b2 ++ q by simp, show p ++ (mrg (lt_api_Series c) a1 b1 ++ mrg (lt_api_Series c) a2 b2) ++ q = p ++ mrg (lt_api_Series c) a1 b1 ++ mrg (lt_api_Series c) a2 b2 ++ q by simp]
    exact this
   have r1 : a2 = [] ∨ b1 = [] → p ++ (a1 ++ a2) ++ (b1 ++ b2) ++ q = p ++ a1 ++ b1 ++ (a2 ++ b2 ++ q) := by rintro (e | e) <;> simp [e]
   have r2 : a1 = [] ∨ b1 = [] → p ++ a1 ++ b1 ++ (a2 ++ b2 ++ q) = p ++ mrg (lt_api_Series c) a1 b1 ++ (a2 ++ b2 ++ q) := fun e => by rw [mrg_none _ e]; simp
   have r3 : a2 = [] ∨ b2 = [] → p ++ mrg (lt_api_Series c) a1 b1 ++ (a2 ++ b2 ++ q) = p ++ (mrg (lt_api_Series c) a1 b1 ++ mrg (lt_api_Series c) a2 b2) ++ q := fun e => by rw [mrg_none (a := a2) _ e]; simp
   have E : ∀ {l : List Ser}, l.isEmpty = true → l = [] := List.isEmpty_iff.1
   have NE : ∀ {l : List Ser}, l.isEmpty = false → l ≠ [] := fun h e => by rw [e] at h; cases h
   clear ih sa' sb' hL hLb ha hb hc
   simp only [go_sem, s_slices_symMergeCmpFunc_api_Series_b6, d3]
   refine sym_tail_api_Series _ _ _ _ g L r  P M N (P + a1.length) (M + b1.length) (P + h) (P + h + M) (p ++ (a1 ++ a2) ++ (b1 ++ b2) ++ q) _ _ _ a1.isEmpty a2.isEmpty b1.isEmpty b2.isEmpty rfl rfl rfl rfl rfl rfl rfl rfl ee x1 x2 x3 x4 x5 x6
    (fun h1 h2 => hr (NE h1) (NE h2)) (fun h1 h2 => i1 (NE h1) (NE h2)) (fun h1 h2 => i2 (NE h1) (NE h2)) (fun h => r1 ((Bool.or_eq_true_iff.1 h).imp E E)) (fun h => r2 ((Bool.or_eq_true_iff.1 h).imp E E)) (fun h => r3 ((Bool.or_eq_true_iff.1 h).imp E E)) (fun env tl => ?_)
   simp only [go_sem]
   refine wO [] [] ?_
   simp only [go_sem, r_slices_symMergeCmpFunc_api_Series, exists_eq_left', Option.some.injEq]
   simp [wkV, wkL, slTrees, AV.asOwn, rowPart, stoOf, AV.isNil, shA, rowsT, cellsT, cellT, ren]

end Go.Proofs.YtgmpceijcdimkaaGreatDoor
namespace Go.Proofs.YtgmpceijcdimkaaGreatDoor
open Go Go.Sx

theorem f_sym_api_Series (g L : Nat) (r : Bool)  (c : Ser → Ser → Int) (D : Ser → Prop) (hc : ∀ x y, D x → D y → Meets Tryz.prog E0 g ([(.ag [Str (toB (x).1), I (x).2.1, I (x).2.2.1, numL (x).2.2.2]), (.ag [Str (toB (y).1), I (y).2.1, I (y).2.2.1, numL (y).2.2.2])] ++ []) [] (I (c x y)) []) (hO : Below3 (lt_api_Series c)) (hLb : L ≤ 281474976710656) (n : Nat) :
  ∀ (p a b q : List Ser), a.length + b.length = n → a ≠ [] → b ≠ [] → (∀ x ∈ a, D x) → (∀ x ∈ b, D x) → Srt (lt_api_Series c) a → Srt (lt_api_Series c) b → L = (p ++ a ++ b ++ q).length →
  Meets Tryz.prog E0 n_slices_symMergeCmpFunc_api_Series [.own 0 4 0 L r, I p.length, I (p.length + a.length : Nat), I (p.length + a.length + b.length : Nat), .fn g [] []] [(0, .row 4 true ((p ++ a ++ b ++ q).map row_api_Series))] (.tp []) [(0, .row 4 true ((p ++ mrg (lt_api_Series c) a b ++ q).map row_api_Series))] := by
 induction n using Nat.strongRecOn with
 | _ n ih =>
  intro p a b q hn ha0 hb0 ha hb sa sb hL
  by_cases h1 : a.length = 1
  ·obtain ⟨x, rfl⟩ := List.length_eq_one_iff.1 h1
   exact f_sym1_api_Series g L r  c D hc hO p b q x (ha x (by simp)) hb sb hL hLb
  ·by_cases h2 : b.length = 1
   ·obtain ⟨y, rfl⟩ := List.length_eq_one_iff.1 h2
    exact f_sym2_api_Series g L r  c D hc hO p a q y h1 ha0 (hb y (by simp)) ha sa hL hLb
   ·exact f_sym3_api_Series g L r  c D hc hO p a b q h1 ha0 h2 hb0 ha hb sa sb hL hLb fun p' a' b' q' hlt => ih _ (by omega) p' a' b' q' rfl

theorem chk_pieces_api_Series {lt : Ser → Ser → Bool} (hO : Below3 lt) {s : Nat} {l : List Ser} (h0 : 0 < s) (h : 2 * s ≤ l.length) : chk lt s l = isrt lt (l.take s) ++ isrt lt ((l.drop s).take s) ++ chk lt s (l.drop (2 * s)) ∧ mrg lt (isrt lt (l.take s)) (isrt lt ((l.drop s).take s)) = isrt lt (l.take (2 * s)) ∧ chk lt (2 * s) l = isrt lt (l.take (2 * s)) ++ chk lt (2 * s) (l.drop (2 * s)) := by
 refine ⟨?_, ?_, chk_gt lt (by omega) h⟩
 ·rw [chk_gt lt h0 (by omega), chk_gt lt h0 (l := l.drop s) (by rw [List.length_drop]; omega), List.drop_drop, show s + s = 2 * s by omega, List.append_assoc]
 ·rw [mrg_isrt hO, show l.take (2 * s) = l.take s ++ (l.drop s).take s by rw [show 2 * s = s + s by omega, List.take_add]]

theorem chk_last_api_Series {lt : Ser → Ser → Bool} (hO : Below3 lt) {s : Nat} {l : List Ser} (h0 : 0 < s) (h1 : s < l.length) (h : l.length < 2 * s) : chk lt s l = isrt lt (l.take s) ++ isrt lt (l.drop s) ∧ mrg lt (isrt lt (l.take s)) (isrt lt (l.drop s)) = isrt lt l ∧ chk lt (2 * s) l = isrt lt l := by
 refine ⟨?_, ?_, chk_le lt (by omega)⟩
 ·rw [chk_gt lt h0 (by omega), chk_le lt (l := l.drop s) (by rw [List.length_drop]; omega)]
 ·rw [mrg_isrt hO, List.take_append_drop]

set_option maxHeartbeats 2000000 in
theorem f_stable_api_Series (g L : Nat) (r : Bool)  (c : Ser → Ser → Int) (D : Ser → Prop) (hc : ∀ x y, D x → D y → Meets Tryz.prog E0 g ([(.ag [Str (toB (x).1), I (x).2.1, I (x).2.2.1, numL (x).2.2.2]), (.ag [Str (toB (y).1), I (y).2.1, I (y).2.2.1, numL (y).2.2.2])] ++ []) [] (I (c x y)) []) (hO : Below3 (lt_api_Series c)) (hLb : L ≤ 281474976710656)
  (l : List Ser) (hL : L = l.length) (hD : ∀ x ∈ l, D x) :
  Meets Tryz.prog E0 n_slices_stableCmpFunc_api_Series [.own 0 4 0 L r, I L, .fn g [] []] [(0, .row 4 true (l.map row_api_Series))] (.tp []) [(0, .row 4 true ((isrt (lt_api_Series c) l).map row_api_Series))] := by
 refine m_slices_stableCmpFunc_api_Series (by simp) (shut_of (by simp [idsL, AV.ids, keysOf]) (by simp [Ob.live, Ob.ids, keysOf, idsL, AV.ids])) (shut_of (by simp [idsL, AV.ids, keysOf]) (by simp [Ob.live, Ob.ids, keysOf, idsL, AV.ids])) (by simp [keysOf]) (by simp [keysOf]) ?_
 simp only [go_sem, s_slices_stableCmpFunc_api_Series]
 refine W_loop (fun s : List Ser × List Ser => s.2.length) (fun s => s.1.length + s.2.length = L ∧ (∀ x ∈ s.2, x ∈ l) ∧ s.1 ++ chk (lt_api_Series c) 20 s.2 = chk (lt_api_Series c) 20 l)
  (fun s => [(0, .own 0 4 0 L r), (1, I L), (2, .fn g [] []), (6, I 20), (7, I s.1.length), (8, I (s.1.length + 20 : Nat))])
  (fun s => [(0, .row 4 true ((s.1 ++ s.2).map row_api_Series))]) ([], l) ⟨by simp [hL], fun x h => h, rfl⟩ (sR [] []) ?_
 rintro ⟨dn, rs⟩ ⟨hs1, hs2, hs3⟩
 simp only at hs1 hs2 hs3 ⊢
 by_cases hlt : dn.length + 20 ≤ L
 ·have d1 : decide (dn.length + 20 ≤ L) = true := decide_eq_true hlt
  have hk : (rs.take 20).length = 20 := by rw [List.length_take]; omega
  have h := f_insertion_api_Series g L r  c D hc dn (rs.take 20) (rs.drop 20) (fun x hx => hD x (hs2 x (List.mem_of_mem_take hx))) (by rw [List.append_assoc, List.take_append_drop, List.length_append, hs1]) hLb
  rw [hk, List.append_assoc, List.take_append_drop] at h
  rw [chk_gt _ (by decide) (by omega), ← List.append_assoc] at hs3
  have ei : IntKind.i64.wrap (((dn.length + 20 : Nat) : Int) + 20) = ((dn.length + 20 + 20 : Nat) : Int) := wadd (y := 20) rfl (by omega)
  simp only [go_sem, d1]
  refine oB (h) ?_
  simp only [go_sem, ei]
  refine rd_of (dn ++ isrt (lt_api_Series c) (rs.take 20), rs.drop 20) (by simp only [List.length_drop]; omega) ⟨by simp only [List.length_append, isrt_len, hk, List.length_drop]; omega, fun x hx => hs2 x (List.mem_of_mem_drop hx), hs3⟩ ?_
  have hl1 : (dn ++ isrt (lt_api_Series c) (rs.take 20)).length = dn.length + 20 := by rw [List.length_append, isrt_len, hk]
  simp only [hl1]
  exact (sR [] [])
 ·have d1 : decide (dn.length + 20 ≤ L) = false := decide_eq_false hlt
  have h := f_insertion_api_Series g L r  c D hc dn rs [] (fun x hx => hD x (hs2 x hx)) (by rw [List.append_nil, List.length_append, hs1]) hLb
  rw [hs1, List.append_nil, List.append_nil, ← chk_le (lt_api_Series c) (show rs.length ≤ 20 by omega), hs3] at h
  clear hs3
  simp only [go_sem, d1]
  refine oB (h) ?_
  simp only [go_sem]
  refine W_loop (fun s : Nat => L - s) (fun s => 0 < s ∧ s ≤ 2 * L + 20)
   (fun s => [(0, .own 0 4 0 L r), (1, I L), (2, .fn g [] []), (6, I s)])
   (fun s => [(0, .row 4 true ((chk (lt_api_Series c) s l).map row_api_Series))]) 20 ⟨by decide, by omega⟩ (sR [] []) ?_
  clear h d1 hlt hs1 hs2
  clear dn rs
  rintro s ⟨hs0, hs1⟩
  by_cases hsl : s < L
  ·have d1 : decide (s < L) = true := decide_eq_true hsl
   have e2 : IntKind.i64.wrap ((2 : Int) * (s : Int)) = ((2 * s : Nat) : Int) := by rw [wrap_i64_of (by omega) (by omega)]; omega
   have e2' : IntKind.i64.wrap ((s : Int) * (2 : Int)) = ((2 * s : Nat) : Int) := by rw [wrap_i64_of (by omega) (by omega)]; omega
   simp only [go_sem, d1, e2]
   refine W_loop (fun s : List Ser × List Ser => s.2.length) (fun t => t.1.length + t.2.length = L ∧ (∀ x ∈ t.2, x ∈ l) ∧ t.1 ++ chk (lt_api_Series c) (2 * s) t.2 = chk (lt_api_Series c) (2 * s) l)
    (fun t => [(0, .own 0 4 0 L r), (1, I L), (2, .fn g [] []), (6, I s), (7, I t.1.length), (8, I (t.1.length + 2 * s : Nat))])
    (fun t => [(0, .row 4 true ((t.1 ++ chk (lt_api_Series c) s t.2).map row_api_Series))]) ([], l) ⟨by simp [hL], fun x h => h, rfl⟩ ?_ ?_
   ·simp only [List.length_nil, List.nil_append, Nat.zero_add]
    exact (sR [] [])
   rintro ⟨dn, rs⟩ ⟨hs1, hs2, hs3⟩
   simp only at hs1 hs2 hs3 ⊢
   by_cases hlt : dn.length + 2 * s ≤ L
   ·have d2 : decide (dn.length + 2 * s ≤ L) = true := decide_eq_true hlt
    obtain ⟨k1, k2, k3⟩ := chk_pieces_api_Series hO hs0 (l := rs) (by omega)
    have l1 : (isrt (lt_api_Series c) (rs.take s)).length = s := by rw [isrt_len, List.length_take]; omega
    have l2 : (isrt (lt_api_Series c) ((rs.drop s).take s)).length = s := by rw [isrt_len, List.length_take, List.length_drop]; omega
    have l3 : (isrt (lt_api_Series c) (rs.take (2 * s))).length = 2 * s := by rw [isrt_len, List.length_take]; omega
    have n1 : isrt (lt_api_Series c) (rs.take s) ≠ [] := fun e => by rw [e, List.length_nil] at l1; omega
    have n2 : isrt (lt_api_Series c) ((rs.drop s).take s) ≠ [] := fun e => by rw [e, List.length_nil] at l2; omega
    have h := f_sym_api_Series g L r  c D hc hO hLb _ dn (isrt (lt_api_Series c) (rs.take s)) (isrt (lt_api_Series c) ((rs.drop s).take s)) (chk (lt_api_Series c) s (rs.drop (2 * s))) rfl n1 n2
     (fun x hx => hD x (hs2 x (List.mem_of_mem_take ((isrt_mem _ _ _).1 hx)))) (fun x hx => hD x (hs2 x (List.mem_of_mem_drop (List.mem_of_mem_take ((isrt_mem _ _ _).1 hx))))) (isrt_srt hO _) (isrt_srt hO _)
     (by simp only [List.length_append, l1, l2, chk_len, List.length_drop]; omega)
    rw [l1, l2, k2, show dn ++ isrt (lt_api_Series c) (rs.take s) ++ isrt (lt_api_Series c) ((rs.drop s).take s) ++ chk (lt_api_Series c) s (rs.drop (2 * s)) = dn ++ chk (lt_api_Series c) s rs by rw [k1]; simp only [List.append_assoc], show dn.length + s + s = dn.length + 2 * s by omega] at h
    rw [k3, ← List.append_assoc] at hs3
    have e3 : IntKind.i64.wrap ((dn.length : Int) + (s : Int)) = ((dn.length + s : Nat) : Int) := wadd rfl (by omega)
    have e4 : IntKind.i64.wrap (((dn.length + 2 * s : Nat) : Int) + ((2 * s : Nat) : Int)) = ((dn.length + 2 * s + 2 * s : Nat) : Int) := wadd rfl (by omega)
    simp only [go_sem, d2, e3]
    refine oB (h) ?_
    simp only [go_sem, e2, e4]
    refine rd_of (dn ++ isrt (lt_api_Series c) (rs.take (2 * s)), rs.drop (2 * s)) (by simp only [List.length_drop]; omega) ⟨by simp only [List.length_append, l3, List.length_drop]; omega, fun x hx => hs2 x (List.mem_of_mem_drop hx), hs3⟩ ?_
    have hl1 : (dn ++ isrt (lt_api_Series c) (rs.take (2 * s))).length = dn.length + 2 * s := by rw [List.length_append, l3]
    simp only [hl1]
    exact (sR [] [])
   ·have d2 : decide (dn.length + 2 * s ≤ L) = false := decide_eq_false hlt
    have e3 : IntKind.i64.wrap ((dn.length : Int) + (s : Int)) = ((dn.length + s : Nat) : Int) := wadd rfl (by omega)
    by_cases hl3 : dn.length + s < L
    ·have d3 : decide (dn.length + s < L) = true := decide_eq_true hl3
     obtain ⟨k1, k2, k3⟩ := chk_last_api_Series hO hs0 (l := rs) (by omega) (by omega)
     have l1 : (isrt (lt_api_Series c) (rs.take s)).length = s := by rw [isrt_len, List.length_take]; omega
     have l2 : (isrt (lt_api_Series c) (rs.drop s)).length = rs.length - s := by rw [isrt_len, List.length_drop]
     have n1 : isrt (lt_api_Series c) (rs.take s) ≠ [] := fun e => by rw [e, List.length_nil] at l1; omega
     have n2 : isrt (lt_api_Series c) (rs.drop s) ≠ [] := fun e => by rw [e, List.length_nil] at l2; omega
     have h := f_sym_api_Series g L r  c D hc hO hLb _ dn (isrt (lt_api_Series c) (rs.take s)) (isrt (lt_api_Series c) (rs.drop s)) [] rfl n1 n2
      (fun x hx => hD x (hs2 x (List.mem_of_mem_take ((isrt_mem _ _ _).1 hx)))) (fun x hx => hD x (hs2 x (List.mem_of_mem_drop ((isrt_mem _ _ _).1 hx)))) (isrt_srt hO _) (isrt_srt hO _)
      (by simp only [List.length_append, l1, l2, List.length_nil]; omega)
     rw [k3] at hs3
     rw [l1, l2, k2, List.append_nil, List.append_nil, hs3, show dn ++ isrt (lt_api_Series c) (rs.take s) ++ isrt (lt_api_Series c) (rs.drop s) = dn ++ chk (lt_api_Series c) s rs by rw [k1]; simp only [List.append_assoc], show dn.length + s + (rs.length - s) = L by omega] at h
     simp only [go_sem, d2, e3, d3]
     refine oB (h) ?_
     simp only [go_sem, e2']
     exact rd_of (2 * s) (by first | omega | (simp only; omega)) ⟨by omega, by omega⟩ (sR [] [])
    ·have d3 : decide (dn.length + s < L) = false := decide_eq_false hl3
     rw [chk_le _ (by omega)] at hs3
     rw [chk_le (lt_api_Series c) (s := s) (l := rs) (by omega), hs3]
     simp only [go_sem, d2, e3, d3, e2']
     exact rd_of (2 * s) (by first | omega | (simp only; omega)) ⟨by omega, by omega⟩ (sR [] [])
  ·have d1 : decide (s < L) = false := decide_eq_false hsl
   rw [chk_le (lt_api_Series c) (s := s) (by omega)]
   simp only [go_sem, d1]
   refine wO [] [] ?_
   simp only [go_sem, r_slices_stableCmpFunc_api_Series, exists_eq_left', Option.some.injEq]
   simp [wkV, wkL, slTrees, AV.asOwn, rowPart, stoOf, AV.isNil, shA, rowsT, cellsT, cellT, ren]

theorem f_SortStable_api_Series (g L : Nat) (r : Bool)  (c : Ser → Ser → Int) (D : Ser → Prop) (hc : ∀ x y, D x → D y → Meets Tryz.prog E0 g ([(.ag [Str (toB (x).1), I (x).2.1, I (x).2.2.1, numL (x).2.2.2]), (.ag [Str (toB (y).1), I (y).2.1, I (y).2.2.1, numL (y).2.2.2])] ++ []) [] (I (c x y)) []) (hO : Below3 (lt_api_Series c)) (hLb : L ≤ 281474976710656)
  (l : List Ser) (hL : L = l.length) (hD : ∀ x ∈ l, D x) :
  Meets Tryz.prog E0 n_slices_SortStableFunc_Sapi_Series_api_Series [.own 0 4 0 L r, .fn g [] []] [(0, .row 4 true (l.map row_api_Series))] (.tp []) [(0, .row 4 true ((isrt (lt_api_Series c) l).map row_api_Series))] := by
 refine m_slices_SortStableFunc_Sapi_Series_api_Series (by simp) (shut_of (by simp [idsL, AV.ids, keysOf]) (by simp [Ob.live, Ob.ids, keysOf, idsL, AV.ids])) (shut_of (by simp [idsL, AV.ids, keysOf]) (by simp [Ob.live, Ob.ids, keysOf, idsL, AV.ids])) (by simp [keysOf]) (by simp [keysOf]) ?_
 have h := f_stable_api_Series g L r  c D hc hO hLb l hL hD
 simp only [go_sem, s_slices_SortStableFunc_Sapi_Series_api_Series]
 refine oB (h) ?_
 simp only [go_sem]
 refine wO [] [] ?_
 simp only [go_sem, r_slices_SortStableFunc_Sapi_Series_api_Series, exists_eq_left', Option.some.injEq]
 simp [wkV, wkL, slTrees, AV.asOwn, rowPart, stoOf, AV.isNil, shA, rowsT, cellsT, cellT, ren]

end Go.Proofs.YtgmpceijcdimkaaGreatDoor
namespace Go.Proofs.YtgmpceijcdimkaaGreatDoor
open Go Go.Sx

theorem f_insertion0_api_Series (g : Nat)  : Meets Tryz.prog E0 n_slices_insertionSortCmpFunc_api_Series [.t (.sl 4 []), I 0, I 0, .fn g [] []] [] (.tp []) [] := by
 refine m_slices_insertionSortCmpFunc_api_Series (by simp) (shut_of (by simp [idsL, AV.ids, keysOf]) (by simp [Ob.live, Ob.ids, keysOf, idsL, AV.ids])) (shut_of (by simp [idsL, AV.ids, keysOf]) (by simp [Ob.live, Ob.ids, keysOf, idsL, AV.ids])) (by simp [keysOf]) (by simp [keysOf]) ?_
 have e1 : IntKind.i64.wrap (0 + 1) = 1 := by decide
 have d1 : decide ((1 : Int) < 0) = false := rfl
 simp only [go_sem, s_slices_insertionSortCmpFunc_api_Series, e1]
 refine W_loop (fun _ : Unit => 0) (fun _ => True) (fun _ => [(0, .t (.sl 4 [])), (1, I 0), (2, I 0), (3, .fn g [] []), (8, I 1)]) (fun _ => []) () trivial (sR [] []) ?_
 intro _ _
 simp only [go_sem, d1]
 refine wO [] [] ?_
 simp only [go_sem, r_slices_insertionSortCmpFunc_api_Series, exists_eq_left', Option.some.injEq]
 simp [wkV, wkL, slTrees, AV.asOwn, rowPart, stoOf, AV.isNil, shA, rowsT, cellsT, cellT, ren]

theorem f_stable0_api_Series (g : Nat)  : Meets Tryz.prog E0 n_slices_stableCmpFunc_api_Series [.t (.sl 4 []), I 0, .fn g [] []] [] (.tp []) [] := by
 refine m_slices_stableCmpFunc_api_Series (by simp) (shut_of (by simp [idsL, AV.ids, keysOf]) (by simp [Ob.live, Ob.ids, keysOf, idsL, AV.ids])) (shut_of (by simp [idsL, AV.ids, keysOf]) (by simp [Ob.live, Ob.ids, keysOf, idsL, AV.ids])) (by simp [keysOf]) (by simp [keysOf]) ?_
 have h := f_insertion0_api_Series g 
 have d1 : decide ((20 : Int) ≤ 0) = false := rfl
 have d2 : decide ((20 : Int) < 0) = false := rfl
 simp only [go_sem, s_slices_stableCmpFunc_api_Series]
 refine W_loop (fun _ : Unit => 0) (fun _ => True) (fun _ => [(0, .t (.sl 4 [])), (1, I 0), (2, .fn g [] []), (6, I 20), (7, I 0), (8, I 20)]) (fun _ => []) () trivial (sR [] []) ?_
 intro _ _
 simp only [go_sem, d1]
 refine oB (h) ?_
 simp only [go_sem]
 refine W_loop (fun _ : Unit => 0) (fun _ => True) (fun _ => [(0, .t (.sl 4 [])), (1, I 0), (2, .fn g [] []), (6, I 20)]) (fun _ => []) () trivial (sR [] []) ?_
 intro _ _
 simp only [go_sem, d2]
 refine wO [] [] ?_
 simp only [go_sem, r_slices_stableCmpFunc_api_Series, exists_eq_left', Option.some.injEq]
 simp [wkV, wkL, slTrees, AV.asOwn, rowPart, stoOf, AV.isNil, shA, rowsT, cellsT, cellT, ren]

theorem f_SortStable0_api_Series (g : Nat)  : Meets Tryz.prog E0 n_slices_SortStableFunc_Sapi_Series_api_Series [.t (.sl 4 []), .fn g [] []] [] (.tp []) [] := by
 refine m_slices_SortStableFunc_Sapi_Series_api_Series (by simp) (shut_of (by simp [idsL, AV.ids, keysOf]) (by simp [Ob.live, Ob.ids, keysOf, idsL, AV.ids])) (shut_of (by simp [idsL, AV.ids, keysOf]) (by simp [Ob.live, Ob.ids, keysOf, idsL, AV.ids])) (by simp [keysOf]) (by simp [keysOf]) ?_
 have h := f_stable0_api_Series g 
 simp only [go_sem, s_slices_SortStableFunc_Sapi_Series_api_Series]
 refine oB (h) ?_
 simp only [go_sem]
 refine wO [] [] ?_
 simp only [go_sem, r_slices_SortStableFunc_Sapi_Series_api_Series, exists_eq_left', Option.some.injEq]
 simp [wkV, wkL, slTrees, AV.asOwn, rowPart, stoOf, AV.isNil, shA, rowsT, cellsT, cellT, ren]

end Go.Proofs.YtgmpceijcdimkaaGreatDoor
namespace Go.Proofs.YtgmpceijcdimkaaGreatDoor
open Go Go.Sx

theorem f_CloneS_e (c : Option Addr) (n : Nat) : Meets Tryz.prog E0 n_slices_Clone_Sapi_Series_api_Series [.t (.v (.slice c 0 n))] [] (.t (.sl 4 [])) [] := by
 refine st0 m_slices_Clone_Sapi_Series_api_Series ?_
 cases c with
 | none =>
  simp only [go_sem, s_slices_Clone_Sapi_Series_api_Series, Option.isNone_none]
  refine wS [] ?_
  simp only [go_sem, r_slices_Clone_Sapi_Series_api_Series, exists_eq_left', Option.some.injEq]
  simp [wkV, wkL, slTrees, AV.asOwn, rowPart, stoOf, AV.isNil, shA, rowsT, cellsT, cellT]
 | some c =>
  simp only [go_sem, s_slices_Clone_Sapi_Series_api_Series, Option.isNone_some, show 0 * 56 ≤ 2 ^ 47 from by decide, show 0 < 2 ^ 47 from by decide]
  refine wS [106] ?_
  simp only [go_sem, r_slices_Clone_Sapi_Series_api_Series, exists_eq_left', Option.some.injEq]
  simp [wkV, wkL, slTrees, AV.asOwn, rowPart, stoOf, AV.isNil, shA, rowsT, cellsT, cellT]

theorem f_CloneS_nil : Meets Tryz.prog E0 n_slices_Clone_Sapi_Series_api_Series [.t (.sl 4 [])] [] (.t (.sl 4 [])) [] :=
 Meets.of_empty (xs := []) (ys := []) f_CloneS_e

theorem f_CloneS_own (id : Nat) (e : List T) (es : List (List T)) (hl : es.length ≤ 1000000000) : Meets Tryz.prog E0 n_slices_Clone_Sapi_Series_api_Series [.t (.sl 4 (e :: es))] [] (.own id 4 0 (es.length + 1) true) [(id, .row 4 true (e :: es))] := by
 have h0 : Meets Tryz.prog E0 n_slices_Clone_Sapi_Series_api_Series [.t (.sl 4 (e :: es))] [] (.own 0 4 0 (es.length + 1) true) [(0, .row 4 true (e :: es))] := by
  have h1 : (es.length + 1) * 56 ≤ 2 ^ 47 := by omega
  have h2 : es.length + 1 < 2 ^ 47 := by omega
  refine m_slices_Clone_Sapi_Series_api_Series (by simp) (shut_of (by simp [idsL, AV.ids, keysOf]) (by simp [Ob.live, Ob.ids, keysOf, idsL, AV.ids])) (shut_of (by simp [idsL, AV.ids, keysOf]) (by simp [Ob.live, Ob.ids, keysOf, idsL, AV.ids])) (by simp [keysOf]) (by simp [keysOf]) ?_
  simp only [go_sem, s_slices_Clone_Sapi_Series_api_Series, h1, h2]
  refine wO [(0, 106)] [] ?_
  simp only [go_sem, r_slices_Clone_Sapi_Series_api_Series, exists_eq_left', Option.some.injEq]
  simp [wkV, wkL, slTrees, AV.asOwn, rowPart, stoOf, AV.isNil, shA, rowsT, cellsT, cellT, ren]
 have := h0.ren (fun _ => id) (by simp [keysOf])
 simpa [renL, renA, renS, renO] using this

/-- Whether a name stands ahead. -/
def nameC (x y : Ser) : Int := lexC x.1 y.1
def nameLt (x y : Ser) : Bool := decide (lexC x.1 y.1 < 0)

theorem name_lt : lt_api_Series nameC = nameLt := rfl
theorem rowY : row_api_Series = seT := rfl

theorem name_below : Below3 nameLt where
 asym := fun a b h => by
  unfold nameLt at *
  have h := of_decide_eq_true h
  refine decide_eq_false ?_
  rw [lex_flip a.1 b.1]
  omega
 tr := fun a b c h1 h2 => by
  unfold nameLt at *
  have h1 := of_decide_eq_false h1
  have h2 := of_decide_eq_false h2
  refine decide_eq_false ?_
  have e1 := lex_flip b.1 a.1
  have e2 := lex_flip c.1 b.1
  have e3 := lex_flip c.1 a.1
  have := lex_tr a.1 b.1 c.1 (by omega) (by omega)
  omega

theorem f_choose_named_1 (x y : Ser) : Meets Tryz.prog E0 n_choose_named_1 [.ag [Str (toB x.1), I x.2.1, I x.2.2.1, numL x.2.2.2], .ag [Str (toB y.1), I y.2.1, I y.2.2.1, numL y.2.2.2]] [] (I (nameC x y)) [] := by
 refine st0 m_choose_named_1 ?_
 simp only [go_sem, s_choose_named_1]
 refine Cl_plain (f_strings_Compare x.1 y.1) ?_
 simp only [go_sem]
 refine wE ?_
 simp only [go_sem, r_choose_named_1]
 first | done | rfl

abbrev serL (l : List Ser) : AV := .t (.sl 4 (l.map seT))

theorem f_choose_named (l : List Ser) (hl : l.length ≤ 1000000) : Meets Tryz.prog E0 n_choose_named [serL l] [] (serL (isrt nameLt l)) [] := by
 refine st0 m_choose_named ?_
 cases l with
 | nil =>
  simp only [List.map_nil, isrt_nil]
  have h := f_SortStable0_api_Series n_choose_named_1
  simp only [go_sem, s_choose_named]
  refine Cl_plain f_CloneS_nil ?_
  simp only [go_sem]
  refine Cl_plain h ?_
  simp only [go_sem]
  refine wS [] ?_
  simp only [go_sem, r_choose_named, exists_eq_left', Option.some.injEq]
  simp [wkV, wkL, slTrees, AV.asOwn, rowPart, stoOf, AV.isNil, shA, rowsT, cellsT, cellT]
 | cons x l =>
  have hc := f_CloneS_own 700 (seT x) (l.map seT) (by simp at hl ⊢; omega)
  have h := (f_SortStable_api_Series n_choose_named_1 (l.length + 1) true nameC (fun _ => True) (fun x y _ _ => f_choose_named_1 x y) (by rw [name_lt]; exact name_below) (by simp at hl; omega) (x :: l) rfl (fun _ _ => trivial)).ren (fun _ => 700) (by simp [keysOf])
  simp only [renL, renA, renS, renO] at h
  rw [List.length_map] at hc
  rw [name_lt, rowY] at h
  have hll := isrt_len nameLt (x :: l)
  simp only [List.map_cons] at h ⊢
  generalize isrt nameLt (x :: l) = s at *
  simp only [go_sem, s_choose_named]
  refine Cl_new hc (by simp [keysOf, stoOf]) (by simp [keysOf]) ?_
  simp only [go_sem]
  refine oB (h) ?_
  simp only [go_sem]
  refine wS [700] ?_
  simp only [go_sem, r_choose_named, exists_eq_left', Option.some.injEq]
  simp [wkV, wkL, slTrees, AV.asOwn, rowPart, stoOf, AV.isNil, shA, rowsT, cellsT, cellT, hll, List.take_of_length_le]

end Go.Proofs.YtgmpceijcdimkaaGreatDoor
namespace Go.Proofs.YtgmpceijcdimkaaGreatDoor
open Go Go.Sx

/-- A call of a function value that has variables: they are handed, and left. -/
theorem Cl_cap {P : Program} {E : Env} {io : List Nat} {Q : Exit → St → Prop} {k : List Kt} {env : List (Nat × AV)} {sto : List (Nat × Ob)} {draw : Bool} {prs : List (Nat × Nat)} {vars : List Nat} {id : Nat} {acc : List Rc}
  {ops : List SO} {d : Option Nat} {g : FuncId} {xs caps : List AV} {r : AV} {ins outs : List (Nat × Ob)} (h : Meets P E g (xs ++ caps) ins r outs) (hin : ∀ i ∈ keysOf ins, stoOf sto i = stoOf ins i) (hk : keysOf outs = keysOf ins) (nd : (keysOf ins).Nodup)
  (hr : R P E io Q draw prs vars k (id + 1) ops (if draw then acc ++ [⟨r, idsL (xs ++ caps) ++ keysOf outs, outs⟩] else acc) (match d with | some d => (d, r) :: env | none => env) (outs ++ sto)) :
  Cl P E io Q draw prs vars k id ops acc d env sto (.fn g [] caps) xs := by
 refine ⟨g, [], caps, rfl, r, ins, outs, [], false, xs ++ caps, ?_, ?_⟩
 ·exact { meets := h, wk := by simpa using Wks.refl (xs ++ caps), insOk := hin, newOk := fun i hi => Or.inl (by rw [← hk]; exact hi), snOk := by simp, keepOk := by simp, nd := by rw [hk]; exact nd }
 ·simp only [froze_nil, List.append_nil, List.nil_append, Bool.false_eq_true, if_false]
  exact hr

end Go.Proofs.YtgmpceijcdimkaaGreatDoor
namespace Go.Proofs.YtgmpceijcdimkaaGreatDoor
open Go Go.Sx

def row_choose_measured (x : (Ser × Option Int)) : List T := [.v (.string (toB (x).1.1)), .v (.int .i64 (x).1.2.1), .v (.int .i64 (x).1.2.2.1), .sl 2 ((x).1.2.2.2.map numT), .v (.bool (x).2.isNone), .v (.int .i64 ((x).2.getD 0))]

theorem swd_step_choose_measured {p u m v q : List (Ser × Option Int)} {i : Nat} (hn : u.length = v.length) (hi : i < u.length) : ∃ x y, (p ++ (v.take i ++ u.drop i) ++ m ++ (u.take i ++ v.drop i) ++ q)[p.length + i]? = some x ∧ (p ++ (v.take i ++ u.drop i) ++ m ++ (u.take i ++ v.drop i) ++ q)[p.length + u.length + m.length + i]? = some y ∧
  (((p ++ (v.take i ++ u.drop i) ++ m ++ (u.take i ++ v.drop i) ++ q).set (p.length + i) y)[p.length + u.length + m.length + i]? = some y) ∧
  ((p ++ (v.take i ++ u.drop i) ++ m ++ (u.take i ++ v.drop i) ++ q).set (p.length + i) y).set (p.length + u.length + m.length + i) x = p ++ (v.take (i + 1) ++ u.drop (i + 1)) ++ m ++ (u.take (i + 1) ++ v.drop (i + 1)) ++ q := by
 obtain ⟨u1, x, u2, rfl, rfl⟩ : ∃ u1 x u2, u = u1 ++ x :: u2 ∧ u1.length = i := ⟨u.take i, u[i], u.drop (i + 1), by simp, by simp; omega⟩
 obtain ⟨v1, y, v2, rfl, hv⟩ : ∃ v1 y v2, v = v1 ++ y :: v2 ∧ v1.length = u1.length := ⟨v.take u1.length, v[u1.length], v.drop (u1.length + 1), by simp, by simp; omega⟩
 have l2 : v2.length = u2.length := by simp at hn; omega
 refine ⟨x, y, ?_⟩
 have e1 : (v1 ++ y :: v2).take u1.length ++ (u1 ++ x :: u2).drop u1.length = v1 ++ x :: u2 := by rw [← hv, List.take_left, hv, List.drop_left]
 have e2 : (u1 ++ x :: u2).take u1.length ++ (v1 ++ y :: v2).drop u1.length = u1 ++ y :: v2 := by rw [List.take_left, ← hv, List.drop_left]
 have e3 : (v1 ++ y :: v2).take (u1.length + 1) ++ (u1 ++ x :: u2).drop (u1.length + 1) = v1 ++ y :: u2 := by
  rw [show v1 ++ y :: v2 = (v1 ++ [y]) ++ v2 by simp, show u1 ++ x :: u2 = (u1 ++ [x]) ++ u2 by simp, List.take_left' (by simp [hv]), List.drop_left' (by simp)]; simp
 have e4 : (u1 ++ x :: u2).take (u1.length + 1) ++ (v1 ++ y :: v2).drop (u1.length + 1) = u1 ++ x :: v2 := by
  rw [show v1 ++ y :: v2 = (v1 ++ [y]) ++ v2 by simp, show u1 ++ x :: u2 = (u1 ++ [x]) ++ u2 by simp, List.take_left' (by simp), List.drop_left' (by simp [hv])]; simp
 rw [e1, e2, e3, e4]
 have f1 : p ++ (v1 ++ x :: u2) ++ m ++ (u1 ++ y :: v2) ++ q = (p ++ v1) ++ x :: (u2 ++ m ++ u1 ++ y :: (v2 ++ q)) := by simp
 have f2 : p ++ (v1 ++ y :: u2) ++ m ++ (u1 ++ y :: v2) ++ q = (p ++ v1 ++ y :: u2 ++ m ++ u1) ++ y :: (v2 ++ q) := by simp
 have n1 : p.length + u1.length = (p ++ v1).length := by simp [hv]
 have n2 : p.length + (u1 ++ x :: u2).length + m.length + u1.length = (p ++ v1 ++ y :: u2 ++ m ++ u1).length := by simp [hv]; omega
 have s1 : (p ++ (v1 ++ x :: u2) ++ m ++ (u1 ++ y :: v2) ++ q).set (p.length + u1.length) y = p ++ (v1 ++ y :: u2) ++ m ++ (u1 ++ y :: v2) ++ q := by
  rw [f1, n1, List.set_append_right _ _ (Nat.le_refl _), Nat.sub_self, List.set_cons_zero]; simp
 refine ⟨?_, ?_, ?_, ?_⟩
 ·rw [f1, n1, List.getElem?_append_right (Nat.le_refl _), Nat.sub_self]; rfl
 ·have : p ++ (v1 ++ x :: u2) ++ m ++ (u1 ++ y :: v2) ++ q = (p ++ v1 ++ x :: u2 ++ m ++ u1) ++ y :: (v2 ++ q) := by simp
  rw [this, show p.length + (u1 ++ x :: u2).length + m.length + u1.length = (p ++ v1 ++ x :: u2 ++ m ++ u1).length by simp [hv]; omega, List.getElem?_append_right (Nat.le_refl _), Nat.sub_self]; rfl
 ·rw [s1, f2, n2, List.getElem?_append_right (Nat.le_refl _), Nat.sub_self]; rfl
 ·rw [s1, f2, n2, List.set_append_right _ _ (Nat.le_refl _), Nat.sub_self, List.set_cons_zero]; simp

theorem f_swapRange_choose_measured (g L : Nat) (r : Bool) (cdn : Bool) (p u m v q : List (Ser × Option Int)) (hn : u.length = v.length) (hL : L = (p ++ u ++ m ++ v ++ q).length) (hb : L ≤ 281474976710656) :
  Meets Tryz.prog E0 n_slices_swapRangeCmpFunc_choose_measured [.own 0 6 0 L r, I p.length, I (p.length + u.length + m.length : Nat), I u.length, .fn g [] [.ptr 1 0]] [(0, .row 6 true ((p ++ u ++ m ++ v ++ q).map row_choose_measured)), (1, .box [Bo cdn])] (.tp []) [(0, .row 6 true ((p ++ v ++ m ++ u ++ q).map row_choose_measured)), (1, .box [Bo cdn])] := by
 refine m_slices_swapRangeCmpFunc_choose_measured (by simp) (shut_of (by simp [idsL, AV.ids, keysOf]) (by simp [Ob.live, Ob.ids, keysOf, idsL, AV.ids])) (shut_of (by simp [idsL, AV.ids, keysOf]) (by simp [Ob.live, Ob.ids, keysOf, idsL, AV.ids])) (by simp [keysOf]) (by simp [keysOf]) ?_
 simp only [go_sem, s_slices_swapRangeCmpFunc_choose_measured]
 refine W_loop (fun i : Nat => u.length - i) (fun i => i ≤ u.length)
  (fun i => [(0, .own 0 6 0 L r), (1, I p.length), (2, I (p.length + u.length + m.length : Nat)), (3, I u.length), (10, I i)])
  (fun i => [(0, .row 6 true ((p ++ (v.take i ++ u.drop i) ++ m ++ (u.take i ++ v.drop i) ++ q).map row_choose_measured)), (1, .box [Bo cdn])]) 0 (Nat.zero_le _) ?_ ?_
 ·simp only [List.take_zero, List.drop_zero, List.nil_append]
  exact (sR [] [])
 ·intro i hi
  simp only [List.length_append] at hL
  by_cases hlt : i < u.length
  ·obtain ⟨x, y, g1, g2, g3, g4⟩ := swd_step_choose_measured (p := p) (m := m) (q := q) hn hlt
   have ea : IntKind.i64.wrap ((p.length : Int) + (i : Int)) = ((p.length + i : Nat) : Int) := by rw [wrap_i64_of (by omega) (by omega)]; omega
   have eb : IntKind.i64.wrap (((p.length + u.length + m.length : Nat) : Int) + (i : Int)) = ((p.length + u.length + m.length + i : Nat) : Int) := by rw [wrap_i64_of (by omega) (by omega)]; omega
   have ei : IntKind.i64.wrap ((i : Int) + 1) = ((i + 1 : Nat) : Int) := by rw [wrap_i64_of (by omega) (by omega)]; omega
   have ia : ((p.length + i : Nat) : Int) < (L : Int) := by omega
   have ib : ((p.length + u.length + m.length + i : Nat) : Int) < (L : Int) := by omega
   have d1 : decide (i < u.length) = true := decide_eq_true hlt
   have hnx : ((((p ++ (v.take i ++ u.drop i) ++ m ++ (u.take i ++ v.drop i) ++ q).map row_choose_measured).set (p.length + i) [.v (.string (toB (y).1.1)), .v (.int .i64 (y).1.2.1), .v (.int .i64 (y).1.2.2.1), .sl 2 ((y).1.2.2.2.map numT), .v (.bool (y).2.isNone), .v (.int .i64 ((y).2.getD 0))]).set (p.length + u.length + m.length + i) [.v (.string (toB (x).1.1)), .v (.int .i64 (x).1.2.1), .v (.int .i64 (x).1.2.2.1), .sl 2 ((x).1.2.2.2.map numT), .v (.bool (x).2.isNone), .v (.int .i64 ((x).2.getD 0))]) = (p ++ (v.take (i + 1) ++ u.drop (i + 1)) ++ m ++ (u.take (i + 1) ++ v.drop (i + 1)) ++ q).map row_choose_measured := by
    rw [← g4, List.map_set, List.map_set]; rfl
   have h3 : (((p ++ (v.take i ++ u.drop i) ++ m ++ (u.take i ++ v.drop i) ++ q).map row_choose_measured).set (p.length + i) [.v (.string (toB (y).1.1)), .v (.int .i64 (y).1.2.1), .v (.int .i64 (y).1.2.2.1), .sl 2 ((y).1.2.2.2.map numT), .v (.bool (y).2.isNone), .v (.int .i64 ((y).2.getD 0))])[p.length + u.length + m.length + i]? = some [.v (.string (toB (y).1.1)), .v (.int .i64 (y).1.2.1), .v (.int .i64 (y).1.2.2.1), .sl 2 ((y).1.2.2.2.map numT), .v (.bool (y).2.isNone), .v (.int .i64 ((y).2.getD 0))] := by
    have := congrArg (Option.map row_choose_measured) g3
    rw [← List.getElem?_map, List.map_set] at this
    exact this
   generalize p ++ (v.take i ++ u.drop i) ++ m ++ (u.take i ++ v.drop i) ++ q = d at *
   have h1 : (d.map row_choose_measured)[p.length + i]? = some [.v (.string (toB (x).1.1)), .v (.int .i64 (x).1.2.1), .v (.int .i64 (x).1.2.2.1), .sl 2 ((x).1.2.2.2.map numT), .v (.bool (x).2.isNone), .v (.int .i64 ((x).2.getD 0))] := by rw [List.getElem?_map, g1]; rfl
   have h2 : (d.map row_choose_measured)[p.length + u.length + m.length + i]? = some [.v (.string (toB (y).1.1)), .v (.int .i64 (y).1.2.1), .v (.int .i64 (y).1.2.2.1), .sl 2 ((y).1.2.2.2.map numT), .v (.bool (y).2.isNone), .v (.int .i64 ((y).2.getD 0))] := by rw [List.getElem?_map, g2]; rfl
   generalize d.map row_choose_measured = dm at *
   simp only [go_sem, d1, ea, eb, ia, ib, h1, h2, h3, ei, hnx]
   exact rd_of (i + 1) (by first | omega | (simp only; omega)) hlt (sR [] [])
  ·obtain rfl : i = u.length := by omega
   have d1 : decide (u.length < u.length) = false := decide_eq_false (by omega)
   have e1 : v.take u.length = v := List.take_of_length_le (by omega)
   have e2 : u.drop u.length = [] := List.drop_length
   have e3 : u.take u.length = u := List.take_length
   have e4 : v.drop u.length = [] := List.drop_of_length_le (by omega)
   simp only [e1, e2, e3, e4, List.append_nil]
   simp only [go_sem, d1]
   refine wO [] [] ?_
   simp only [go_sem, r_slices_swapRangeCmpFunc_choose_measured, exists_eq_left', Option.some.injEq]
   simp [wkV, wkL, slTrees, AV.asOwn, rowPart, stoOf, AV.isNil, shA, rowsT, cellsT, cellT, ren]

end Go.Proofs.YtgmpceijcdimkaaGreatDoor
namespace Go.Proofs.YtgmpceijcdimkaaGreatDoor
open Go Go.Sx

set_option maxHeartbeats 1000000 in
theorem f_rotate_choose_measured (g L : Nat) (r : Bool) (cdn : Bool) (p x y q : List (Ser × Option Int)) (hx : x ≠ []) (hy : y ≠ []) (hL : L = (p ++ x ++ y ++ q).length) (hb : L ≤ 281474976710656) :
  Meets Tryz.prog E0 n_slices_rotateCmpFunc_choose_measured [.own 0 6 0 L r, I p.length, I (p.length + x.length : Nat), I (p.length + x.length + y.length : Nat), .fn g [] [.ptr 1 0]] [(0, .row 6 true ((p ++ x ++ y ++ q).map row_choose_measured)), (1, .box [Bo cdn])] (.tp []) [(0, .row 6 true ((p ++ y ++ x ++ q).map row_choose_measured)), (1, .box [Bo cdn])] := by
 generalize hout : p ++ y ++ x ++ q = out
 have hLs : L = p.length + x.length + y.length + q.length := by rw [hL]; simp only [List.length_append]
 obtain ⟨M, hM⟩ : ∃ M, p.length + x.length = M := ⟨_, rfl⟩
 have ex : IntKind.i64.wrap (((p.length + x.length : Nat) : Int) - (p.length : Int)) = (x.length : Int) := by rw [wrap_i64_of (by omega) (by omega)]; omega
 have ey : IntKind.i64.wrap (((p.length + x.length + y.length : Nat) : Int) - ((p.length + x.length : Nat) : Int)) = (y.length : Int) := by rw [wrap_i64_of (by omega) (by omega)]; omega
 rw [hM] at ex ey ⊢
 refine m_slices_rotateCmpFunc_choose_measured (by simp) (shut_of (by simp [idsL, AV.ids, keysOf]) (by simp [Ob.live, Ob.ids, keysOf, idsL, AV.ids])) (shut_of (by simp [idsL, AV.ids, keysOf]) (by simp [Ob.live, Ob.ids, keysOf, idsL, AV.ids])) (by simp [keysOf]) (by simp [keysOf]) ?_
 simp only [go_sem, s_slices_rotateCmpFunc_choose_measured, ex, ey]
 refine W_loop (fun s : List (Ser × Option Int) × List (Ser × Option Int) × List (Ser × Option Int) × List (Ser × Option Int) => s.2.1.length + s.2.2.1.length) (fun s => s.2.1 ≠ [] ∧ s.2.2.1 ≠ [] ∧ s.1.length + s.2.1.length = M ∧ s.1.length + s.2.1.length + s.2.2.1.length + s.2.2.2.length = L ∧ s.1 ++ s.2.2.1 ++ s.2.1 ++ s.2.2.2 = out)
  (fun s => [(0, .own 0 6 0 L r), (2, I M), (4, .fn g [] [.ptr 1 0]), (10, I s.2.1.length), (11, I s.2.2.1.length)])
  (fun s => [(0, .row 6 true ((s.1 ++ s.2.1 ++ s.2.2.1 ++ s.2.2.2).map row_choose_measured)), (1, .box [Bo cdn])]) (p, x, y, q) ⟨hx, hy, hM, hLs.symm, hout⟩ (sR [] []) ?_
 clear hout ex ey hL hLs hM hx hy
 rintro ⟨p, x, y, q⟩ ⟨hx, hy, hM, hLs, hout⟩
 simp only at hx hy hM hLs hout ⊢
 have hxl : 0 < x.length := List.length_pos_iff.2 hx
 have hyl : 0 < y.length := List.length_pos_iff.2 hy
 have ea : IntKind.i64.wrap ((M : Int) - (x.length : Int)) = (p.length : Int) := by rw [wrap_i64_of (by omega) (by omega)]; omega
 rcases Nat.lt_trichotomy x.length y.length with hlt | heq | hgt
 ·have d1 : decide ((x.length : Int) = (y.length : Int)) = false := decide_eq_false (by omega)
  have d1' : decide (x.length = y.length) = false := decide_eq_false (by omega)
  have d2 : decide (y.length < x.length) = false := decide_eq_false (by omega)
  obtain ⟨y1, y2, rfl, hy1⟩ := split_at (show y.length - x.length ≤ y.length by omega)
  have hy2 : x.length = y2.length := by simp at hy1 hlt; omega
  have n1 : y2 ≠ [] := fun e => by rw [e, List.length_nil] at hy2; omega
  have n2 : y1 ≠ [] := fun e => by have e' := congrArg List.length e; simp only [List.length_append, List.length_nil] at e' hy1 hlt; omega
  have h := f_swapRange_choose_measured g L r cdn p x y1 y2 q hy2 (by simp at hLs ⊢; omega) hb
  have e1 : p.length + x.length + y1.length = M + y1.length := by omega
  rw [e1] at h
  have e2 : p ++ x ++ (y1 ++ y2) ++ q = p ++ x ++ y1 ++ y2 ++ q := by simp
  rw [e2]
  have e3 : IntKind.i64.wrap (IntKind.i64.wrap ((M : Int) + ((y1 ++ y2).length : Int)) - (x.length : Int)) = ((M + y1.length : Nat) : Int) := by
   rw [wrap_i64_of (n := (M : Int) + _) (by omega) (by omega), wrap_i64_of (by omega) (by omega)]; simp; omega
  have e4 : IntKind.i64.wrap (((y1 ++ y2).length : Int) - (x.length : Int)) = (y1.length : Int) := by
   rw [wrap_i64_of (by omega) (by omega)]; simp; omega
  generalize hyy : (y1 ++ y2).length = yl at *
  simp only [go_sem, d1, d1', d2, ea, e3, e4]
  refine oB (h) ?_
  simp only [go_sem, e4]
  refine rd_of (p, y2, y1, x ++ q) (by simp at hyy ⊢; omega) ⟨n1, n2, by simp only; omega, by simp at hyy ⊢; omega, by rw [← hout]; simp⟩ ?_
  rw [hy2]
  have e5 : p ++ y2 ++ y1 ++ (x ++ q) = p ++ y2 ++ y1 ++ x ++ q := by simp
  simp only
  rw [e5]
  exact (sR [] [])
 ·have d1 : decide ((x.length : Int) = (y.length : Int)) = true := decide_eq_true (by omega)
  have d1' : decide (x.length = y.length) = true := decide_eq_true heq
  have h := f_swapRange_choose_measured g L r cdn p x [] y q heq (by simp at hLs ⊢; omega) hb
  have e1 : p.length + x.length + ([] : List (Ser × Option Int)).length = M := by simp; omega
  rw [e1, List.append_nil, List.append_nil, hout] at h
  simp only [go_sem, d1, d1', ea]
  refine oB (h) ?_
  simp only [go_sem]
  refine wO [] [] ?_
  simp only [go_sem, r_slices_rotateCmpFunc_choose_measured, exists_eq_left', Option.some.injEq]
  simp [wkV, wkL, slTrees, AV.asOwn, rowPart, stoOf, AV.isNil, shA, rowsT, cellsT, cellT, ren]
 ·have d1 : decide ((x.length : Int) = (y.length : Int)) = false := decide_eq_false (by omega)
  have d1' : decide (x.length = y.length) = false := decide_eq_false (by omega)
  have d2 : decide (y.length < x.length) = true := decide_eq_true hgt
  obtain ⟨x1, x2, rfl, hx1⟩ := split_at (show y.length ≤ x.length by omega)
  have hx2 : x2.length < (x1 ++ x2).length := by simp; omega
  have n1 : x2 ≠ [] := fun e => by have e' := congrArg List.length e; simp only [List.length_append, List.length_nil] at e' hx1 hgt; omega
  have n2 : x1 ≠ [] := fun e => by have e' := congrArg List.length e; simp only [List.length_append, List.length_nil] at e' hx1 hgt; omega
  have h := f_swapRange_choose_measured g L r cdn p x1 x2 y q hx1 (by simp at hLs ⊢; omega) hb
  have e1 : p.length + x1.length + x2.length = M := by simp at hM; omega
  rw [e1, hx1] at h
  have e2 : p ++ (x1 ++ x2) ++ y ++ q = p ++ x1 ++ x2 ++ y ++ q := by simp
  rw [e2]
  have e4 : IntKind.i64.wrap (((x1 ++ x2).length : Int) - (y.length : Int)) = (x2.length : Int) := by
   rw [wrap_i64_of (by omega) (by omega)]; simp; omega
  generalize hxx : (x1 ++ x2).length = xl at *
  simp only [go_sem, d1, d1', d2, ea]
  refine oB (h) ?_
  simp only [go_sem, e4]
  refine rd_of (p ++ y, x2, x1, q) (by simp at hxx ⊢; omega) ⟨n1, n2, by simp at hxx ⊢; omega, by simp at hxx ⊢; omega, by rw [← hout]; simp⟩ ?_
  simp only [hx1]
  exact (sR [] [])

end Go.Proofs.YtgmpceijcdimkaaGreatDoor
