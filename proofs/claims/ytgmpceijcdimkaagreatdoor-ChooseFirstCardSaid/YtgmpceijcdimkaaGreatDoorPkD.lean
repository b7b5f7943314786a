/- Texts of mine, many in one. No statement of the seat is proved here. -/
import Derived.Test.YtgmpceijcdimkaaGreatDoorPkC
import Derived.Test.YtgmpceijcdimkaaGreatDoorSxH
import Derived.Test.YtgmpceijcdimkaaGreatDoorSxRow
set_option linter.unusedSimpArgs false
set_option linter.unusedVariables false
namespace Go.Proofs.YtgmpceijcdimkaaGreatDoor
open Go Go.Sx

theorem wO_NdComp {io : List Nat} {env : List (Nat × AV)} {sto : List (Nat × Ob)} {res : List RV} {r : AV} {e : Exit} {outs : List (Nat × Ob)} (rn : List (Nat × Nat)) (sn : List Nat) (hr : ∃ raw, (resL env sto res).map packR = some raw ∧ wkV (stoOf sto) sn (ren rn) raw r) (he : e = .ret ∨ e = .normal := by first | exact Or.inl rfl | exact Or.inr rfl)
  (hi : ∀ i ∈ r.ids, i ∈ keysOf outs := by simp [AV.ids, idsL, keysOf]) (h2 : stoS sto sn rn outs outs := by simp [stoS, wkO, ls_cons, ls_nil, stoOf, ren, keysOf, Ob.ids, wkV, wkL, AV.one, idsL, AV.ids, setL, pst] <;> assumption) (h3 : ((keysOf outs).map (ren rn)).Nodup := by simp [keysOf, ren])
  (h4 : ∀ i ∈ sn, 100 ≤ i ∧ isRow (stoOf sto i) = true ∧ ∀ j ∈ keysOf outs, ren rn j ≠ i := by simp [stoOf, keysOf, ren]) (h5 : ∀ i ∈ io, ren rn i = i := by simp [keysOf, ren]) (h6 : ∀ i ∈ keysOf outs, ren rn i ∈ io → i = ren rn i := by simp [keysOf, ren]) :
  SEnds io res r outs e ⟨envOf env, stoOf sto⟩ := wO rn sn hr he hi h2 h3 h4 h5 h6

theorem sR_NdComp {io : List Nat} {env : List (Nat × AV)} {sto : List (Nat × Ob)} {env' : List (Nat × AV)} {sto' : List (Nat × Ob)} (rn : List (Nat × Nat)) (sn : List Nat)
  (h1 : envS sto sn rn env sto' env' := by simp [envS, go_sem, wkV, wkL, AV.ids, idsL, keysOf, ren, stoOf, slTrees, AV.asOwn, rowPart, AV.isNil, shA, rowsT, cellsT, cellT, wkLL, setL, pst] <;> assumption)
  (h2 : stoS sto sn rn sto' sto' := by simp [stoS, go_sem, wkV, wkL, wkO, AV.ids, Ob.ids, idsL, keysOf, ren, AV.one, stoOf, slTrees, AV.asOwn, rowPart, AV.isNil, shA, rowsT, cellsT, cellT, wkLL, setL, pst] <;> assumption)
  (h3 : ((keysOf sto').map (ren rn)).Nodup := by simp [keysOf, ren]) (h4 : ∀ i ∈ sn, 100 ≤ i ∧ isRow (stoOf sto i) = true ∧ ∀ j ∈ keysOf sto', ren rn j ≠ i := by simp [stoOf, keysOf, ren])
  (h5 : ∀ i ∈ io, ren rn i = i := by simp [keysOf, ren]) (h6 : ∀ i ∈ keysOf sto', ren rn i ∈ io → i = ren rn i := by simp [keysOf, ren]) :
  Sub io ⟨envOf env, stoOf sto⟩ ⟨envOf env', stoOf sto'⟩ := subL rn sn h1 h2 h3 h4 h5 h6

theorem f_parser_class (id : Nat) (s : ByteArray) (rest : List UInt8) (h : Suf s rest) (hs : s.size < 4611686018427387904) : Meets Tryz.prog E0 n_needle_parser_class [.ptr id 0] [(id, pst s rest)] (.tp [setV (classM rest).1, Bo (classM rest).2.1]) [(id, pst s (classM rest).2.2)] := by
 have := (f_parser_class0 s rest h hs).ren (fun _ => id) (by simp [keysOf])
 exact this

theorem f_parser_atom0 (s : ByteArray) (c : UInt8) (r : List UInt8) (h : Suf s (c :: r)) (hs : s.size < 4611686018427387904) : Meets Tryz.prog E0 n_needle_parser_atom [.ptr 0 0] [(0, pst s (c :: r))] (.tp [setV (atomM (c :: r)).1, Bo (atomM (c :: r)).2.1]) [(0, pst s (atomM (c :: r)).2.2)] := by
 have hc := u8_lt c
 refine m_needle_parser_atom (by simp) (shut_of (by simp [idsL, AV.ids, keysOf, setL, pst]) (by simp [Ob.live, Ob.ids, keysOf, idsL, AV.ids, setL, pst])) (shut_of (by simp [idsL, AV.ids, keysOf, setL, pst]) (by simp [Ob.live, Ob.ids, keysOf, idsL, AV.ids, setL, pst])) (by simp [keysOf]) (by simp [keysOf]) ?_
 simp only [go_sem, s_needle_parser_atom]
 refine oB (f_parser_next 0 s (c :: r) h hs) ?_
 by_cases hb : c.toNat = 94 ∨ c.toNat = 36 ∨ c.toNat = 42 ∨ c.toNat = 93
 ·rw [show atomM (c :: r) = (0, false, r) from by simp only [atomM, if_pos hb]]
  rcases hb with hb | hb | hb | hb
  all_goals
   simp only [go_sem, nextM, hb]
   refine wO_NdComp [] [] ?_
   simp only [go_sem, r_needle_parser_atom, exists_eq_left', Option.some.injEq]
   simp [wkV, wkL, slTrees, AV.asOwn, rowPart, stoOf, AV.isNil, shA, rowsT, cellsT, cellT]
 ·have b1 : decide (c.toNat = 94) = false := by simp; omega
  have b2 : decide (c.toNat = 36) = false := by simp; omega
  have b3 : decide (c.toNat = 42) = false := by simp; omega
  have b4 : decide (c.toNat = 93) = false := by simp; omega
  by_cases h46 : c.toNat = 46
  ·rw [show atomM (c :: r) = (full, true, r) from by simp only [atomM, if_neg hb, if_pos h46]]
   simp only [go_sem, nextM, b1, b2, b3, b4, h46]
   refine oB (f_set_add 102 0 0 255 (Nat.two_pow_pos _) (by decide) (by decide)) ?_
   rw [show 255 + 1 - 0 = 256 from rfl, full_add]
   simp only [go_sem]
   refine wO_NdComp [] [] ?_
   simp only [go_sem, r_needle_parser_atom, exists_eq_left', Option.some.injEq]
   simp [wkV, wkL, slTrees, AV.asOwn, rowPart, stoOf, AV.isNil, shA, rowsT, cellsT, cellT]
  have b5 : decide (c.toNat = 46) = false := by simp; omega
  by_cases h91 : c.toNat = 91
  ·rw [show atomM (c :: r) = classM r from by simp only [atomM, if_neg hb, if_neg h46, if_pos h91]]
   simp only [go_sem, nextM, b1, b2, b3, b4, b5, h91]
   refine oB (f_parser_class 0 s r h.tail hs) ?_
   simp only [go_sem]
   refine wO_NdComp [] [] ?_
   simp only [go_sem, r_needle_parser_atom, exists_eq_left', Option.some.injEq]
   simp [wkV, wkL, slTrees, AV.asOwn, rowPart, stoOf, AV.isNil, shA, rowsT, cellsT, cellT]
  have b6 : decide (c.toNat = 91) = false := by simp; omega
  by_cases h92 : c.toNat = 92
  ·simp only [go_sem, nextM, b1, b2, b3, b4, b5, b6, h92]
   refine oB (f_parser_next 0 s r h.tail hs) ?_
   cases r with
   | nil =>
    rw [show atomM [c] = (1, false, []) from by simp only [atomM, if_neg hb, if_neg h46, if_neg h91, if_pos h92]]
    simp only [go_sem, nextM]
    refine oB (f_set_add 102 0 0 0 (Nat.two_pow_pos _) (by decide) (by decide)) ?_
    rw [show addN 0 0 (0 + 1 - 0) = 1 from rfl]
    simp only [go_sem]
    refine wO_NdComp [] [] ?_
    simp only [go_sem, r_needle_parser_atom, exists_eq_left', Option.some.injEq]
    simp [wkV, wkL, slTrees, AV.asOwn, rowPart, stoOf, AV.isNil, shA, rowsT, cellsT, cellT]
   | cons d r =>
    have hd := u8_lt d
    rw [show atomM (c :: d :: r) = (2 ^ d.toNat, true, r) from by simp only [atomM, if_neg hb, if_neg h46, if_neg h91, if_pos h92]]
    simp only [go_sem, nextM]
    refine oB (f_set_add 102 0 d.toNat d.toNat (Nat.two_pow_pos _) hd hd) ?_
    rw [Nat.add_sub_cancel_left, one_add]
    simp only [go_sem]
    refine wO_NdComp [] [] ?_
    simp only [go_sem, r_needle_parser_atom, exists_eq_left', Option.some.injEq]
    simp [wkV, wkL, slTrees, AV.asOwn, rowPart, stoOf, AV.isNil, shA, rowsT, cellsT, cellT]
  have b7 : decide (c.toNat = 92) = false := by simp; omega
  rw [show atomM (c :: r) = (2 ^ c.toNat, true, r) from by simp only [atomM, if_neg hb, if_neg h46, if_neg h91, if_neg h92]]
  simp only [go_sem, nextM, b1, b2, b3, b4, b5, b6, b7]
  refine oB (f_set_add 102 0 c.toNat c.toNat (Nat.two_pow_pos _) hc hc) ?_
  rw [Nat.add_sub_cancel_left, one_add]
  simp only [go_sem]
  refine wO_NdComp [] [] ?_
  simp only [go_sem, r_needle_parser_atom, exists_eq_left', Option.some.injEq]
  simp [wkV, wkL, slTrees, AV.asOwn, rowPart, stoOf, AV.isNil, shA, rowsT, cellsT, cellT]

theorem f_parser_atom (id : Nat) (s : ByteArray) (c : UInt8) (r : List UInt8) (h : Suf s (c :: r)) (hs : s.size < 4611686018427387904) : Meets Tryz.prog E0 n_needle_parser_atom [.ptr id 0] [(id, pst s (c :: r))] (.tp [setV (atomM (c :: r)).1, Bo (atomM (c :: r)).2.1]) [(id, pst s (atomM (c :: r)).2.2)] := by
 have := (f_parser_atom0 s c r h hs).ren (fun _ => id) (by simp [keysOf])
 exact this

theorem f_needle_Compile (s : ByteArray) (hs : s.size < 4611686018427387904) : Meets Tryz.prog E0 n_needle_Compile [.t (.v (.string s))] [] (.tp [needleV (compM s.data.toList).1.1 (compM s.data.toList).1.2.1 (compM s.data.toList).1.2.2, I (compM s.data.toList).2]) [] := by
 refine st0 m_needle_Compile ?_
 simp only [go_sem, s_needle_Compile]
 refine W_split rfl (fun h1 => ?_) (fun h1 => ?_)
 ·simp at h1
  have hc : compM s.data.toList = ((false, false, []), 12) := by unfold compM; rw [if_pos (by rw [ba_len]; omega)]
  rw [hc]
  simp only [go_sem]
  refine wS [] ?_
  simp only [go_sem, r_needle_Compile, exists_eq_left', Option.some.injEq]
  simp [wkV, wkL, slTrees, AV.asOwn, rowPart, stoOf, AV.isNil, shA, rowsT, cellsT, cellT]
 ·simp at h1
  have hall := Suf.all s
  have hc : compM s.data.toList = (match itemsM (s.size + 1) (skipM 94 s.data.toList).2 [] with
   | none => ((false, false, []), 10)
   | some (e, is) => (((skipM 94 s.data.toList).1, e, is), 0)) := by unfold compM; rw [ba_len, if_neg (by omega)] <;> rfl
  have hsuf : Suf s (skipM 94 s.data.toList).2 := (skip_suf 94 _).trans hall
  rw [hc]
  simp only [go_sem]
  refine Cl_obj (f_parser_skip 110 94 s _ hall hs) (by simp [keysOf, stoOf, ba_len]) (by simp [keysOf]) (by simp [keysOf]) ?_
  generalize hsk : skipM 94 s.data.toList = sk at *
  generalize hout : itemsM (s.size + 1) sk.2 [] = out
  simp only [go_sem]
  refine W_loop (fun i : List UInt8 × List Item => i.1.length) (fun i => Suf s i.1 ∧ i.2.length + i.1.length ≤ 64 ∧ ∃ f, i.1.length < f ∧ itemsM f i.1 i.2 = out)
   (fun i => [(0, .t (.v (.string s))), (2, .ptr 100 0), (4, .ptr 110 0), (5, .ptr 115 0)])
   (fun i => [(100, .box [Bo false, Bo false, .t (.v (.slice none 0 0))]), (110, pst s i.1), (115, .box [Bo sk.1, Bo false, .own 999 5 0 i.2.length (!i.2.isEmpty)]), (999, .row 5 (!i.2.isEmpty) (i.2.map itemT))])
   (sk.2, []) ⟨hsuf, by have := hsuf.len; simp; omega, s.size + 1, by have := hsuf.len; simp; omega, hout⟩ ?_ ?_
  ·exact (sR_NdComp [] [])
  ·rintro ⟨l, acc⟩ ⟨hl, hk, f, hf, hr⟩
   simp only at hl hk hf hr
   simp only [go_sem]
   refine oB (f_parser_more 110 s l hl) ?_
   obtain ⟨f, rfl⟩ : ∃ g, f = g + 1 := ⟨f - 1, by omega⟩
   cases l with
   | nil =>
    simp only [itemsM] at hr
    subst hr
    simp only [go_sem, List.isEmpty_nil]
    cases hacc : acc with
    | nil =>
     refine wS [] ?_
     simp only [go_sem, r_needle_Compile, exists_eq_left', Option.some.injEq]
     simp [wkV, wkL, slTrees, AV.asOwn, rowPart, stoOf, AV.isNil, shA, rowsT, cellsT, cellT]
    | cons a acc =>
     refine wS [999] ?_
     simp only [go_sem, r_needle_Compile, exists_eq_left', Option.some.injEq]
     simp [wkV, wkL, slTrees, AV.asOwn, rowPart, stoOf, AV.isNil, shA, rowsT, cellsT, cellT, List.take_of_length_le]
   | cons c r =>
    have hlen := hl.len
    simp only [List.length_cons] at hlen hk hf
    by_cases hd : r = [] ∧ c.toNat = 36
    ·obtain ⟨rfl, hc36⟩ := hd
     simp only [itemsM, hc36, and_self, if_true] at hr
     subst hr
     simp only [List.length_nil] at hlen
     have e1 : IntKind.i64.wrap ((s.size : Int) - 1) = ((s.size - 1 : Nat) : Int) := by rw [wrap_i64_of (by omega) (by omega)]; omega
     simp only [go_sem, e1, decide_true]
     refine oB (f_parser_skip 110 36 s [c] hl hs) ?_
     simp only [go_sem, skipM, hc36]
     cases hacc : acc with
     | nil =>
      refine wS [] ?_
      simp only [go_sem, r_needle_Compile, exists_eq_left', Option.some.injEq]
      simp [wkV, wkL, slTrees, AV.asOwn, rowPart, stoOf, AV.isNil, shA, rowsT, cellsT, cellT]
     | cons a acc =>
      refine wS [999] ?_
      simp only [go_sem, r_needle_Compile, exists_eq_left', Option.some.injEq]
      simp [wkV, wkL, slTrees, AV.asOwn, rowPart, stoOf, AV.isNil, shA, rowsT, cellsT, cellT, List.take_of_length_le]
    ·simp only [itemsM, if_neg hd] at hr
     obtain hr0 | hr0 : r.length = 0 ∨ 0 < r.length := by omega
     ·have e1 : IntKind.i64.wrap ((s.size : Int) - 1) = ((s.size - (r.length + 1) : Nat) : Int) := by rw [wrap_i64_of (by omega) (by omega)]; omega
      have hn36 : ¬ c.toNat = 36 := fun h => hd ⟨List.eq_nil_of_length_eq_zero hr0, h⟩
      simp only [go_sem, e1, decide_true]
      refine oB (f_parser_skip 110 36 s (c :: r) hl hs) ?_
      rw [show skipM 36 (c :: r) = (false, c :: r) from by simp [skipM, hn36]]
      simp only [go_sem]
      refine oB (f_parser_atom 110 s c r hl hs) ?_
      have hat := atomM_suf c r
      have hal := atomM_lt (c :: r)
      generalize atomM (c :: r) = x at *
      obtain ⟨n, ok, r1⟩ := x
      cases ok with
      | false =>
       simp only [Bool.false_eq_true, if_false] at hr
       subst hr
       simp only [go_sem]
       refine wS [] ?_
       simp only [go_sem, r_needle_Compile, exists_eq_left', Option.some.injEq]
       simp [wkV, wkL, slTrees, AV.asOwn, rowPart, stoOf, AV.isNil, shA, rowsT, cellsT, cellT]
      | true =>
       simp only [if_true] at hr hat hal
       have hs1 : Suf s r1 := hat.trans hl.tail
       have hle := hat.length_le
       have hsf := (skip_suf 42 r1).length_le
       simp only [go_sem]
       refine oB (f_parser_skip 110 42 s r1 hs1 hs) ?_
       have b1 : (acc.length + 1) * 40 ≤ 2 ^ 47 := by omega
       have b2 : acc.length + 1 < 2 ^ 47 := by omega
       have e2 : acc.map itemT ++ [itemT (n, (skipM 42 r1).1)] = (acc ++ [(n, (skipM 42 r1).1)]).map itemT := by simp
       simp only [itemT] at e2
       simp only [go_sem, b1, b2]
       refine R_fin ?_ ?_
       ·repeat' (first | exact okp0 | refine okp rfl rfl rfl ?_)
       simp only [go_sem, e2]
       refine rd_of ((skipM 42 r1).2, acc ++ [(n, (skipM 42 r1).1)]) (by simp; omega) ⟨(skip_suf 42 r1).trans hs1, by simp; omega, f, by simp; omega, hr⟩ ?_
       exact (sR_NdComp [(999, 153)] [])
     ·have e1 : IntKind.i64.wrap ((s.size : Int) - 1) = ((s.size - 1 : Nat) : Int) := by rw [wrap_i64_of (by omega) (by omega)]; omega
      have d1 : decide (s.size - (r.length + 1) = s.size - 1) = false := by simp; omega
      simp only [go_sem, e1, d1]
      refine oB (f_parser_atom 110 s c r hl hs) ?_
      have hat := atomM_suf c r
      have hal := atomM_lt (c :: r)
      generalize atomM (c :: r) = x at *
      obtain ⟨n, ok, r1⟩ := x
      cases ok with
      | false =>
       simp only [Bool.false_eq_true, if_false] at hr
       subst hr
       simp only [go_sem]
       refine wS [] ?_
       simp only [go_sem, r_needle_Compile, exists_eq_left', Option.some.injEq]
       simp [wkV, wkL, slTrees, AV.asOwn, rowPart, stoOf, AV.isNil, shA, rowsT, cellsT, cellT]
      | true =>
       simp only [if_true] at hr hat hal
       have hs1 : Suf s r1 := hat.trans hl.tail
       have hle := hat.length_le
       have hsf := (skip_suf 42 r1).length_le
       simp only [go_sem]
       refine oB (f_parser_skip 110 42 s r1 hs1 hs) ?_
       have b1 : (acc.length + 1) * 40 ≤ 2 ^ 47 := by omega
       have b2 : acc.length + 1 < 2 ^ 47 := by omega
       have e2 : acc.map itemT ++ [itemT (n, (skipM 42 r1).1)] = (acc ++ [(n, (skipM 42 r1).1)]).map itemT := by simp
       simp only [itemT] at e2
       simp only [go_sem, b1, b2]
       refine R_fin ?_ ?_
       ·repeat' (first | exact okp0 | refine okp rfl rfl rfl ?_)
       simp only [go_sem, e2]
       refine rd_of ((skipM 42 r1).2, acc ++ [(n, (skipM 42 r1).1)]) (by simp; omega) ⟨(skip_suf 42 r1).trans hs1, by simp; omega, f, by simp; omega, hr⟩ ?_
       exact (sR_NdComp [(999, 153)] [])

end Go.Proofs.YtgmpceijcdimkaaGreatDoor
namespace Go.Proofs.YtgmpceijcdimkaaGreatDoor
open Go Go.Sx

theorem wO_NdFind {io : List Nat} {env : List (Nat × AV)} {sto : List (Nat × Ob)} {res : List RV} {r : AV} {e : Exit} {outs : List (Nat × Ob)} (rn : List (Nat × Nat)) (sn : List Nat) (hr : ∃ raw, (resL env sto res).map packR = some raw ∧ wkV (stoOf sto) sn (ren rn) raw r) (he : e = .ret ∨ e = .normal := by first | exact Or.inl rfl | exact Or.inr rfl)
  (hi : ∀ i ∈ r.ids, i ∈ keysOf outs := by simp [AV.ids, idsL, keysOf]) (h2 : stoS sto sn rn outs outs := by simp [stoS, wkO, ls_cons, ls_nil, stoOf, ren, keysOf, Ob.ids, wkV, wkL, AV.one, idsL, AV.ids, setL, pst] <;> assumption) (h3 : ((keysOf outs).map (ren rn)).Nodup := by simp [keysOf, ren])
  (h4 : ∀ i ∈ sn, 100 ≤ i ∧ isRow (stoOf sto i) = true ∧ ∀ j ∈ keysOf outs, ren rn j ≠ i := by simp [stoOf, keysOf, ren]) (h5 : ∀ i ∈ io, ren rn i = i := by simp [keysOf, ren]) (h6 : ∀ i ∈ keysOf outs, ren rn i ∈ io → i = ren rn i := by simp [keysOf, ren]) :
  SEnds io res r outs e ⟨envOf env, stoOf sto⟩ := wO rn sn hr he hi h2 h3 h4 h5 h6

theorem sR_NdFind {io : List Nat} {env : List (Nat × AV)} {sto : List (Nat × Ob)} {env' : List (Nat × AV)} {sto' : List (Nat × Ob)} (rn : List (Nat × Nat)) (sn : List Nat)
  (h1 : envS sto sn rn env sto' env' := by simp [envS, go_sem, wkV, wkL, AV.ids, idsL, keysOf, ren, stoOf, slTrees, AV.asOwn, rowPart, AV.isNil, shA, rowsT, cellsT, cellT, wkLL, setL, pst] <;> assumption)
  (h2 : stoS sto sn rn sto' sto' := by simp [stoS, go_sem, wkV, wkL, wkO, AV.ids, Ob.ids, idsL, keysOf, ren, AV.one, stoOf, slTrees, AV.asOwn, rowPart, AV.isNil, shA, rowsT, cellsT, cellT, wkLL, setL, pst] <;> assumption)
  (h3 : ((keysOf sto').map (ren rn)).Nodup := by simp [keysOf, ren]) (h4 : ∀ i ∈ sn, 100 ≤ i ∧ isRow (stoOf sto i) = true ∧ ∀ j ∈ keysOf sto', ren rn j ≠ i := by simp [stoOf, keysOf, ren])
  (h5 : ∀ i ∈ io, ren rn i = i := by simp [keysOf, ren]) (h6 : ∀ i ∈ keysOf sto', ren rn i ∈ io → i = ren rn i := by simp [keysOf, ren]) :
  Sub io ⟨envOf env, stoOf sto⟩ ⟨envOf env', stoOf sto'⟩ := subL rn sn h1 h2 h3 h4 h5 h6

theorem take_map_len' (l : List Bool) (n : Nat) (h : l.length = n) : (l.map bT).take n = l.map bT := by rw [List.take_of_length_le]; simp [h]

theorem getD_map (l : List Bool) (i : Nat) (h : i < l.length) : (l.map bT)[i]? = some (bT (l.getD i false)) := by
 rw [List.getElem?_map, List.getD_eq_getElem?_getD, List.getElem?_eq_getElem h]; rfl

theorem item_get {is : List Item} {i : Nat} {x : Item} (h : is[i]? = some x) : starAt is i = x.2 ∧ ∀ b, fitAt is i b = x.1.testBit b := by
 simp [starAt, fitAt, h]

theorem f_states_reach0 (is : List Item) (hn : is.length ≤ 100000) : ∀ (s : List Bool) (i : Nat), s.length = is.length + 1 → i ≤ is.length →
  Meets Tryz.prog E0 n_needle_states_reach [.own 0 1 0 (is.length + 1) true, itemsV is, I i] [(0, .row 1 true (s.map bT))] (.tp []) [(0, .row 1 true ((reachM is (is.length + 1) i s).map bT))] := by
 intro s i hs hi
 generalize hout : reachM is (is.length + 1) i s = out
 refine m_needle_states_reach (by simp) (shut_of (by simp [idsL, AV.ids, keysOf, setL, pst]) (by simp [Ob.live, Ob.ids, keysOf, idsL, AV.ids, setL, pst])) (shut_of (by simp [idsL, AV.ids, keysOf, setL, pst]) (by simp [Ob.live, Ob.ids, keysOf, idsL, AV.ids, setL, pst])) (by simp [keysOf]) (by simp [keysOf]) ?_
 simp only [go_sem, s_needle_states_reach]
 refine W_loop (fun x : Nat × List Bool => is.length + 1 - x.1) (fun x => x.1 ≤ is.length ∧ x.2.length = is.length + 1 ∧ ∃ f, is.length < x.1 + f ∧ reachM is f x.1 x.2 = out)
  (fun x => [(0, .own 0 1 0 (is.length + 1) true), (1, itemsV is), (2, I x.1)])
  (fun x => [(0, .row 1 true (x.2.map bT))])
  (i, s) ⟨hi, hs, is.length + 1, by simp only; omega, hout⟩ ?_ ?_
 ·exact (sR_NdFind [] [])
 ·rintro ⟨i, s⟩ ⟨hi, hs, f, hf, hr⟩
  simp only at hi hs hf hr
  have hg := getD_map s i (by omega)
  have q1 : (i : Int) < ((is.length + 1 : Nat) : Int) := by omega
  obtain ⟨f, rfl⟩ : ∃ g, f = g + 1 := ⟨f - 1, by omega⟩
  simp only [reachM] at hr
  cases hsi : s.getD i false
  ·simp only [hsi, Bool.false_eq_true, if_false] at hr
   have e0 : (s.map bT).set i (bT true) = (s.set i true).map bT := by simp
   simp only [go_sem, q1, hg, hsi, e0]
   obtain hin | hin : i = is.length ∨ i < is.length := by omega
   ·subst hin
    have hst : starAt is is.length = false := by simp [starAt]
    simp only [hst, Bool.false_eq_true, if_false] at hr
    subst hr
    simp only [go_sem, decide_true]
    refine wO_NdFind [] [] ?_
    simp only [go_sem, r_needle_states_reach, exists_eq_left', Option.some.injEq]
    simp [wkV, wkL, slTrees, AV.asOwn, rowPart, stoOf, AV.isNil, shA, rowsT, cellsT, cellT]
   ·obtain ⟨x, hx⟩ := get_of_lt hin
    obtain ⟨h1, h2⟩ := item_get hx
    have d1 : decide (i = is.length) = false := by simp; omega
    have ei : IntKind.i64.wrap ((i : Int) + 1) = ((i + 1 : Nat) : Int) := by rw [wrap_i64_of (by omega) (by omega)]; omega
    rw [h1] at hr
    cases hx2 : x.2
    ·simp only [hx2, Bool.false_eq_true, if_false] at hr
     subst hr
     simp only [go_sem, d1, hx, itemT, hx2]
     refine wO_NdFind [] [] ?_
     simp only [go_sem, r_needle_states_reach, exists_eq_left', Option.some.injEq]
     simp [wkV, wkL, slTrees, AV.asOwn, rowPart, stoOf, AV.isNil, shA, rowsT, cellsT, cellT]
    ·simp only [hx2, if_true] at hr
     simp only [go_sem, d1, hx, itemT, hx2, ei]
     refine rd_of (i + 1, s.set i true) (by simp; omega) ⟨by simp; omega, by simpa using hs, f, by simp; omega, hr⟩ ?_
     exact (sR_NdFind [] [])
  ·simp only [hsi, if_true] at hr
   subst hr
   simp only [go_sem, q1, hg, hsi]
   refine wO_NdFind [] [] ?_
   simp only [go_sem, r_needle_states_reach, exists_eq_left', Option.some.injEq]
   simp [wkV, wkL, slTrees, AV.asOwn, rowPart, stoOf, AV.isNil, shA, rowsT, cellsT, cellT]

theorem f_states_reach (id : Nat) (is : List Item) (hn : is.length ≤ 100000) (s : List Bool) (i : Nat) (hs : s.length = is.length + 1) (hi : i ≤ is.length) :
  Meets Tryz.prog E0 n_needle_states_reach [.own id 1 0 (is.length + 1) true, itemsV is, I i] [(id, .row 1 true (s.map bT))] (.tp []) [(id, .row 1 true ((reachM is (is.length + 1) i s).map bT))] := by
 have := (f_states_reach0 is hn s i hs hi).ren (fun _ => id) (by simp [keysOf])
 exact this

theorem word_get (n b : Nat) (hb : b < 256) : (word n (b / 64)).testBit (b % 64) = n.testBit b := by
 rw [word_bit _ _ _ (by omega), show 64 * (b / 64) + b % 64 = b by omega]

theorem and_bit (w k : Nat) : (w &&& 2 ^ k == 0) = !w.testBit k := by
 have h : (w &&& 2 ^ k = 0) ↔ w.testBit k = false := by
  constructor
  ·intro h
   have := congrArg (fun x => x.testBit k) h
   simpa [Nat.testBit_and, Nat.testBit_two_pow] using this
  ·intro h
   apply Nat.eq_of_testBit_eq
   intro i
   rw [Nat.testBit_and, Nat.testBit_two_pow, Nat.zero_testBit]
   by_cases hi : k = i
   ·subst hi; simp [h]
   ·simp [hi]
 rw [Bool.eq_iff_iff]; simp [h]

theorem f_needle_Fits (n b : Nat) (st : Bool) (hb : b < 256) : Meets Tryz.prog E0 n_needle_Fits [itemV (n, st), U8 b] [] (Bo (n.testBit b)) [] := by
 refine st0 m_needle_Fits ?_
 have h6 : b / 2 ^ (min 6 8) = b / 64 := rfl
 have hw : ∀ j, word n j % 18446744073709551616 = word n j := fun j => Nat.mod_eq_of_lt (word_lt n j)
 have hab : ∀ w k : Nat, decide (w &&& 2 ^ k = 0) = !w.testBit k := fun w k => and_bit w k
 have h63 : b % 256 &&& 63 % 256 = b % 64 := by
  rw [Nat.mod_eq_of_lt hb]; exact Nat.and_two_pow_sub_one_eq_mod b 6
 have hmin : min (b % 64) 64 = b % 64 := Nat.min_eq_left (by omega)
 have p0 : 2 ^ (b % 64) % 18446744073709551616 = 2 ^ (b % 64) := Nat.mod_eq_of_lt (Nat.pow_lt_pow_right (n := 64) (by decide) (by omega))
 have h4 : b / 64 = 0 ∨ b / 64 = 1 ∨ b / 64 = 2 ∨ b / 64 = 3 := by omega
 have i4 : ∀ j : Nat, j < 4 → (j : Int) < ((4 : Nat) : Int) := by omega
 have hg := word_get n b hb
 rcases h4 with h4 | h4 | h4 | h4
 all_goals
  rw [h4] at hg
  simp only [go_sem, s_needle_Fits, h6, h63, h4, i4 0 (by decide), i4 1 (by decide), i4 2 (by decide), i4 3 (by decide), setL, hmin, p0]
  refine wE ?_
  simp only [go_sem, r_needle_Fits]
  first | rw [word0 n] | rw [word1 n] | rw [word2 n] | rw [word3 n]
  rw [← hg, hw, hab, Bool.not_not]

theorem f_states_step (id : Nat) (is : List Item) (hn : is.length ≤ 100000) (s : List Bool) (hs : s.length = is.length + 1) (b : Nat) (hb : b < 256) :
  Meets Tryz.prog E0 n_needle_states_step [boolsV s, itemsV is, U8 b] [] (.own id 1 0 (is.length + 1) true) [(id, .row 1 true ((stepM is s b).map bT))] := by
 have h0 : Meets Tryz.prog E0 n_needle_states_step [boolsV s, itemsV is, U8 b] [] (.own 0 1 0 (is.length + 1) true) [(0, .row 1 true ((stepM is s b).map bT))] := by
  unfold stepM
  refine m_needle_states_step (by simp) (shut_of (by simp [idsL, AV.ids, keysOf, setL, pst]) (by simp [Ob.live, Ob.ids, keysOf, idsL, AV.ids, setL, pst])) (shut_of (by simp [idsL, AV.ids, keysOf, setL, pst]) (by simp [Ob.live, Ob.ids, keysOf, idsL, AV.ids, setL, pst])) (by simp [keysOf]) (by simp [keysOf]) ?_
  have b1 : ((1 : Nat) : Int) * ((is.length + 1 : Nat) : Int) ≤ 2 ^ 48 := by omega
  have b2 : ((is.length + 1 : Nat) : Int) < 2 ^ 47 := by omega
  simp only [go_sem, s_needle_states_step, hs, b1, b2]
  refine W_loop (fun k : Nat => is.length - k) (fun k => k ≤ is.length)
   (fun k => [(0, boolsV s), (1, itemsV is), (2, U8 b), (7, .own 103 1 0 (is.length + 1) true), (13, itemsV is), (14, I is.length), (15, I k)])
   (fun k => [(103, .row 1 true ((stepN is s b k).map bT))])
   0 (by omega) ?_ ?_
  ·have e0 : (stepN is s b 0).map bT = List.replicate (is.length + 1) [T.v (.bool false)] := by simp [stepN]
   rw [e0]
   exact (sR_NdFind [] [])
  ·intro k hk
   simp only [go_sem]
   refine W_split rfl (fun h1 => ?_) (fun h1 => ?_)
   ·simp at h1
    obtain ⟨x, hx⟩ := get_of_lt h1
    obtain ⟨q1, q2⟩ := item_get hx
    have hg := getD_map s k (by omega)
    have ei : IntKind.i64.wrap ((k : Int) + 1) = ((k + 1 : Nat) : Int) := by rw [wrap_i64_of (by omega) (by omega)]; omega
    have hl := stepN_len is s b k
    cases hsk : s.getD k false
    ·have hst : stepN is s b (k + 1) = stepN is s b k := by simp only [stepN, hsk, Bool.false_and, Bool.false_eq_true, if_false]
     simp only [go_sem, hx, itemT, hg, hsk, ei]
     refine rd_of (k + 1) (by first | omega | (simp only; omega)) (by first | omega | (simp only; omega)) ?_
     rw [hst]
     exact (sR_NdFind [] [])
    ·simp only [go_sem, hx, itemT, hg, hsk]
     refine Cl_plain (f_needle_Fits x.1 b x.2 hb) ?_
     cases hf : x.1.testBit b
     ·have hst : stepN is s b (k + 1) = stepN is s b k := by simp only [stepN, q2, hf, Bool.and_false, Bool.false_eq_true, if_false]
      simp only [go_sem, hf, ei]
      refine rd_of (k + 1) (by first | omega | (simp only; omega)) (by first | omega | (simp only; omega)) ?_
      rw [hst]
      exact (sR_NdFind [] [])
     ·have hst : stepN is s b (k + 1) = reachM is (is.length + 1) (if x.2 then k else k + 1) (stepN is s b k) := by simp only [stepN, q2, hf, hsk, q1]; rfl
      cases hx2 : x.2
      ·simp only [hx2, Bool.false_eq_true, if_false] at hst
       simp only [go_sem, hf, hx2, ei]
       refine oB (f_states_reach 103 is hn (stepN is s b k) (k + 1) hl (by omega)) ?_
       simp only [go_sem, ei]
       refine rd_of (k + 1) (by first | omega | (simp only; omega)) (by first | omega | (simp only; omega)) ?_
       rw [hst]
       exact (sR_NdFind [] [])
      ·simp only [hx2, if_true] at hst
       simp only [go_sem, hf, hx2]
       refine oB (f_states_reach 103 is hn (stepN is s b k) k hl (by omega)) ?_
       simp only [go_sem, ei]
       refine rd_of (k + 1) (by first | omega | (simp only; omega)) (by first | omega | (simp only; omega)) ?_
       rw [hst]
       exact (sR_NdFind [] [])
   ·simp at h1
    have e : k = is.length := by omega
    subst e
    simp only [go_sem]
    refine wO_NdFind [(0, 103)] [] ?_
    simp only [go_sem, r_needle_states_step, exists_eq_left', Option.some.injEq]
    simp [wkV, wkL, slTrees, AV.asOwn, rowPart, stoOf, AV.isNil, shA, rowsT, cellsT, cellT, ren]
 have := h0.ren (fun _ => id) (by simp [keysOf])
 exact this

theorem f_states_reach_z (id : Nat) (is : List Item) (hn : is.length ≤ 100000) (s : List Bool) (hs : s.length = is.length + 1) :
  Meets Tryz.prog E0 n_needle_states_reach [.own id 1 0 (is.length + 1) true, itemsV is, I 0] [(id, .row 1 true (s.map bT))] (.tp []) [(id, .row 1 true ((reachM is (is.length + 1) 0 s).map bT))] :=
 f_states_reach id is hn s 0 hs (Nat.zero_le _)

theorem f_needle_Found (a z : Bool) (is : List Item) (hn : is.length ≤ 100000) (tx : ByteArray) (ht : tx.size < 4611686018427387904) : Meets Tryz.prog E0 n_needle_Found [needleV a z is, .t (.v (.string tx))] [] (Bo (foundM a z is tx.data.toList)) [] := by
 generalize hout : foundM a z is tx.data.toList = out
 refine st0 m_needle_Found ?_
 have b1 : ((1 : Nat) : Int) * ((is.length + 1 : Nat) : Int) ≤ 2 ^ 48 := by omega
 have b2 : ((is.length + 1 : Nat) : Int) < 2 ^ 47 := by omega
 have ei : IntKind.i64.wrap ((is.length : Int) + 1) = ((is.length + 1 : Nat) : Int) := by rw [wrap_i64_of (by omega) (by omega)]; omega
 have e0 : List.replicate (is.length + 1) [T.v (.bool false)] = (List.replicate (is.length + 1) false).map bT := by simp
 have q1 : (is.length : Int) < ((is.length + 1 : Nat) : Int) := by omega
 simp only [go_sem, s_needle_Found, ei, b1, b2, e0]
 refine oB (f_states_reach_z 108 is hn (List.replicate (is.length + 1) false) (by simp)) ?_
 simp only [go_sem]
 refine W_loop (fun x : Nat × List Bool => tx.size - x.1) (fun x => x.1 ≤ tx.size ∧ x.2.length = is.length + 1 ∧ walkM a z is (tx.data.toList.drop x.1) x.2 = out)
  (fun x => [(1, .t (.v (.string tx))), (2, .ptr 100 0), (5, I is.length), (6, .own 999 1 0 (is.length + 1) true), (19, I tx.size), (20, I x.1)])
  (fun x => [(100, .box [Bo a, Bo z, itemsV is]), (999, .row 1 true (x.2.map bT))])
  (0, reachM is (is.length + 1) 0 (List.replicate (is.length + 1) false)) ⟨by simp only; omega, by rw [reachM_len]; simp, by rw [← hout]; rfl⟩ ?_ ?_
 ·exact (sR_NdFind [(999, 108)] [])
 ·rintro ⟨j, s⟩ ⟨hj, hs, hr⟩
  simp only at hj hs hr
  have hg := getD_map s is.length (by omega)
  simp only [go_sem]
  refine W_split rfl (fun h1 => ?_) (fun h1 => ?_)
  ·simp at h1
   obtain ⟨c, hc⟩ := get_of_lt (l := tx.data.toList) (i := j) (by rw [ba_len]; exact h1)
   have hc2 : tx[j]? = some c := by rw [ba_get]; exact hc
   have hcb := u8_lt c
   have ej : IntKind.i64.wrap ((j : Int) + 1) = ((j + 1 : Nat) : Int) := by rw [wrap_i64_of (by omega) (by omega)]; omega
   rw [drop_get hc] at hr
   simp only [walkM] at hr
   have hsl2 := stepM_len is s c.toNat
   cases hsl : s.getD is.length false
   ·simp only [hsl, Bool.false_and, Bool.false_eq_true, if_false] at hr
    simp only [go_sem, q1, hg, hsl, hc2]
    refine Cl_io [999] false (f_states_step 136 is hn s hs c.toNat hcb) ?_ (by simp [keysOf]) (by simp [keysOf, stoOf]) (by simp [stoOf, keysOf]) (by simp) (by simp [keysOf]) ?_
    ·exact .one (Wk.row (by simp [slTrees, AV.asOwn, rowPart, stoOf, hs, take_map_len' s _ hs]) (by simp)) (.one (Wk.refl _) (.one (Wk.refl _) .nil))
    cases ha : a
    ·simp only [ha, Bool.false_eq_true, if_false] at hr
     simp only [go_sem]
     refine oB (f_states_reach_z 136 is hn (stepM is s c.toNat) hsl2) ?_
     simp only [go_sem, ej]
     refine rd_of (j + 1, reachM is (is.length + 1) 0 (stepM is s c.toNat)) (by simp; omega) ⟨by simp; omega, by simp only; rw [reachM_len]; exact hsl2, hr⟩ ?_
     exact (sR_NdFind [(999, 136)] [])
    ·simp only [ha, if_true] at hr
     simp only [go_sem, ej]
     refine rd_of (j + 1, stepM is s c.toNat) (by simp; omega) ⟨by simp; omega, hsl2, hr⟩ ?_
     exact (sR_NdFind [(999, 136)] [])
   ·cases hz : z
    ·subst hz
     simp only [hsl, Bool.true_and, Bool.not_false, if_true] at hr
     subst hr
     simp only [go_sem, q1, hg, hsl]
     refine wE ?_
     simp only [go_sem, r_needle_Found]
    ·subst hz
     simp only [hsl, Bool.true_and, Bool.not_true, Bool.false_eq_true, if_false] at hr
     simp only [go_sem, q1, hg, hsl, hc2]
     refine Cl_io [999] false (f_states_step 136 is hn s hs c.toNat hcb) ?_ (by simp [keysOf]) (by simp [keysOf, stoOf]) (by simp [stoOf, keysOf]) (by simp) (by simp [keysOf]) ?_
     ·exact .one (Wk.row (by simp [slTrees, AV.asOwn, rowPart, stoOf, hs, take_map_len' s _ hs]) (by simp)) (.one (Wk.refl _) (.one (Wk.refl _) .nil))
     cases ha : a
     ·simp only [ha, Bool.false_eq_true, if_false] at hr
      simp only [go_sem]
      refine oB (f_states_reach_z 136 is hn (stepM is s c.toNat) hsl2) ?_
      simp only [go_sem, ej]
      refine rd_of (j + 1, reachM is (is.length + 1) 0 (stepM is s c.toNat)) (by simp; omega) ⟨by simp; omega, by simp only; rw [reachM_len]; exact hsl2, hr⟩ ?_
      exact (sR_NdFind [(999, 136)] [])
     ·simp only [ha, if_true] at hr
      simp only [go_sem, ej]
      refine rd_of (j + 1, stepM is s c.toNat) (by simp; omega) ⟨by simp; omega, hsl2, hr⟩ ?_
      exact (sR_NdFind [(999, 136)] [])
  ·simp at h1
   have e : j = tx.size := by omega
   subst e
   rw [List.drop_eq_nil_of_le (by rw [ba_len]; exact Nat.le_refl _)] at hr
   simp only [walkM] at hr
   simp only [go_sem, q1, hg, hr]
   refine wE ?_
   simp only [go_sem, r_needle_Found]

end Go.Proofs.YtgmpceijcdimkaaGreatDoor
namespace Go.Proofs.YtgmpceijcdimkaaGreatDoor
open Go Go.Sx

def q3M (call : List UInt8) (a z : Bool) (is : List Item) (s : Ser) : Bool := foundM a z is (toB s.1).data.toList == (call == wGrep)

theorem f_choose_choose_3 (call : List UInt8) (a z : Bool) (is : List Item) (hn : is.length ≤ 100000) (s : Ser) (hs : s.1.length ≤ 100000) :
  Meets Tryz.prog E0 n_choose_choose_3 ([serA s] ++ [.ptr 2 0, .ptr 3 0]) [(2, .box ([T.v (.bool a), T.v (.bool z), T.sl 5 (is.map itemT)].map .t)), (3, .box ([T.v (.string (toB call))].map .t))] (Bo (q3M call a z is s)) [(2, .box ([T.v (.bool a), T.v (.bool z), T.sl 5 (is.map itemT)].map .t)), (3, .box ([T.v (.string (toB call))].map .t))] := by
 simp only [List.singleton_append, List.map_cons, List.map_nil]
 have hF := f_needle_Found a z is hn (toB s.1) (by rw [toB_size]; omega)
 have q : binStr .eql (toB call) (bs [103, 114, 101, 112]) = some (.bool (call == wGrep)) := eqT call wGrep
 unfold q3M
 refine m_choose_choose_3 (by simp) (shut_of (by simp [idsL, AV.ids, keysOf]) (by simp [Ob.live, Ob.ids, keysOf, idsL, AV.ids])) (shut_of (by simp [idsL, AV.ids, keysOf]) (by simp [Ob.live, Ob.ids, keysOf, idsL, AV.ids])) (by simp [keysOf]) (by simp [keysOf]) ?_
 simp only [go_sem, s_choose_choose_3]
 refine Cl_plain hF ?_
 simp only [go_sem, q]
 ((try (with_reducible refine rF ?_)); (try simp only [go_sem]))
 refine wO [] [] ?_
 simp only [go_sem, r_choose_choose_3, exists_eq_left', Option.some.injEq]
 simp [wkV, wkL, slTrees, AV.asOwn, rowPart, stoOf, AV.isNil, shA, rowsT, cellsT, cellT]

end Go.Proofs.YtgmpceijcdimkaaGreatDoor
namespace Go.Proofs.YtgmpceijcdimkaaGreatDoor
open Go Go.Sx

end Go.Proofs.YtgmpceijcdimkaaGreatDoor
namespace Go.Proofs.YtgmpceijcdimkaaGreatDoor
open Go Go.Sx

def gt (s : List Bool) (k : Nat) : Prop := s.getD k false = true

theorem getD_set (s : List Bool) (i k : Nat) (v : Bool) (h : i < s.length) : (s.set i v).getD k false = if k = i then v else s.getD k false := by
 simp only [List.getD_eq_getElem?_getD, List.getElem?_set]
 by_cases hk : k = i
 ·subst hk; simp [h]
 ·rw [if_neg (Ne.symm hk), if_neg hk]
def closed (is : List Item) (s : List Bool) : Prop := ∀ k, k < is.length → gt s k → starAt is k = true → gt s (k + 1)

end Go.Proofs.YtgmpceijcdimkaaGreatDoor
namespace Go.Proofs.YtgmpceijcdimkaaGreatDoor
open Go Go.Sx

end Go.Proofs.YtgmpceijcdimkaaGreatDoor
namespace Go.Proofs.YtgmpceijcdimkaaGreatDoor
open Go Go.Sx

end Go.Proofs.YtgmpceijcdimkaaGreatDoor
namespace Go.Proofs.YtgmpceijcdimkaaGreatDoor
open Go Go.Sx

end Go.Proofs.YtgmpceijcdimkaaGreatDoor
namespace Go.Proofs.YtgmpceijcdimkaaGreatDoor
open Go Go.Sx

end Go.Proofs.YtgmpceijcdimkaaGreatDoor
namespace Go.Proofs.YtgmpceijcdimkaaGreatDoor
open Go Go.Sx

def lit (c : UInt8) : Item := (2 ^ c.toNat, false)

end Go.Proofs.YtgmpceijcdimkaaGreatDoor
namespace Go.Proofs.YtgmpceijcdimkaaGreatDoor
open Go Go.Sx

theorem f_needle_Compile_any (s : ByteArray) : Meets Tryz.prog E0 n_needle_Compile [.t (.v (.string s))] [] (.tp [needleV (compM s.data.toList).1.1 (compM s.data.toList).1.2.1 (compM s.data.toList).1.2.2, I (compM s.data.toList).2]) [] := by
 by_cases h : s.size ≤ 64
 ·exact f_needle_Compile s (by omega)
 ·refine st0 m_needle_Compile ?_
  have hc : compM s.data.toList = ((false, false, []), 12) := by unfold compM; rw [if_pos (by rw [ba_len]; omega)]
  have d0 : decide ((64 : Int) < (s.size : Int)) = true := decide_eq_true (by omega)
  rw [hc]
  simp only [go_sem, s_needle_Compile, d0]
  refine wS [] ?_
  simp only [go_sem, r_needle_Compile, exists_eq_left', Option.some.injEq]
  simp [wkV, wkL, slTrees, AV.asOwn, rowPart, stoOf, AV.isNil, shA, rowsT, cellsT, cellT]

end Go.Proofs.YtgmpceijcdimkaaGreatDoor
namespace Go.Proofs.YtgmpceijcdimkaaGreatDoor
open Go Go.Sx

def renM (f : Ser → List UInt8) (l : List Ser) : List Ser × Int := (if l.all (fun s => decide ((f s).length ≤ 400)) = true then l.map (renS1 f) else [], if l.all (fun s => decide ((f s).length ≤ 400)) = true then 0 else 20)

/-- What a call answers. -/
def coreM (call : List UInt8) (l : List Ser) (args ns : List Num) (tx : List UInt8) : List Ser × Int :=
 if (ruledM call).1.1 = 2 then (firstM (sortedM call l true) ns, 0)
 else if (ruledM call).1.1 = 3 then (firstM (sortedM call l false) ns, 0)
 else if (ruledM call).1.1 = 4 then (l.filter (q1M call (args.headD (false, 0))), 0)
 else if (ruledM call).1.1 = 5 then (l.filter (q2M call (args.headD (false, 0))), 0)
 else if (ruledM call).1.1 = 6 then (if (compM tx).2 = 0 then l.filter (q3M call (compM tx).1.1 (compM tx).1.2.1 (compM tx).1.2.2) else [], (compM tx).2)
 else if (ruledM call).1.1 = 7 then (if (call == wAlias) = true then renM (fun _ => tx) l else renM (fun s => piecesM s.1 ns) l)
 else if (call == wByName) = true then (isrt nameLt l, 0)
 else (firstM l ns, 0)

def renC : Nat → Nat
 | 2 => 100
 | 3 => 101
 | n => n
def renG : Nat → Nat
 | 2 => 151
 | 3 => 100
 | n => n
def renT : Nat → Nat
 | 2 => 103
 | n => n
def renN : Nat → Nat
 | 2 => 102
 | n => n

theorem sorted_len (call : List UInt8) (l : List Ser) (down : Bool) : (sortedM call l down).length = l.length := by
 unfold sortedM
 rw [List.length_map, isrt_len, List.length_map]

theorem f_choose_choose (call : List UInt8) (l : List Ser) (args ns : List Num) (tx : List UInt8) (hcl : call.length ≤ 1000000000) (hl : l.length ≤ 100000) (hv : ∀ s ∈ l, s.1.length ≤ 100000 ∧ s.2.2.2.length ≤ 100000 ∧ inS s)
  (hns : ns.length ≤ 100000) (hw : ns.all wholeN = true) (h4 : (ruledM call).1.1 = 4 ∨ (ruledM call).1.1 = 5 → args ≠ []) (h7 : (ruledM call).1.1 = 7 → (call == wAlias) = false → ns ≠ []) :
  Meets Tryz.prog E0 n_choose_choose [Str (toB call), serL l, numL args, .t (.sl 1 (ns.map cellW)), Str (toB tx)] [] (.tp [serL (coreM call l args ns tx).1, I (coreM call l args ns tx).2]) [] := by
 have hR := f_choose_ruled call hcl
 have q1 : binStr .eql (toB call) (bs [97, 108, 105, 97, 115]) = some (.bool (call == wAlias)) := eqT call wAlias
 have q2 : binStr .eql (toB call) (bs [115, 111, 114, 116, 66, 121, 78, 97, 109, 101]) = some (.bool (call == wByName)) := eqT call wByName
 generalize hE : coreM call l args ns tx = C
 unfold coreM at hE
 generalize (ruledM call).1.1 = k at *
 generalize (ruledM call).1.2 = wy at *
 generalize (ruledM call).2 = okb at *
 refine st0 m_choose_choose ?_
 simp only [go_sem, s_choose_choose]
 refine Cl_plain hR ?_
 cases d2 : decide (k = 2)
 ·cases d3 : decide (k = 3)
  ·cases d4 : decide (k = 4)
   ·cases d5 : decide (k = 5)
    ·cases d6 : decide (k = 6)
     ·cases d7 : decide (k = 7)
      ·cases dn : (call == wByName)
       ·have e : C = (firstM l ns, 0) := by rw [← hE, if_neg (of_decide_eq_false d2), if_neg (of_decide_eq_false d3), if_neg (of_decide_eq_false d4), if_neg (of_decide_eq_false d5), if_neg (of_decide_eq_false d6), if_neg (of_decide_eq_false d7), dn, if_neg Bool.false_ne_true]
        subst e
        simp only [go_sem, d2, d3, d4, d5, d6, d7, q2, dn]
        refine Cl_plain (f_choose_first l ns (by omega) (by omega) hw) ?_
        simp only [go_sem]
        refine wS [] ?_
        simp only [go_sem, r_choose_choose, exists_eq_left', Option.some.injEq]
        simp [wkV, wkL, slTrees, AV.asOwn, rowPart, stoOf, AV.isNil, shA, rowsT, cellsT, cellT]
       ·have e : C = (isrt nameLt l, 0) := by rw [← hE, if_neg (of_decide_eq_false d2), if_neg (of_decide_eq_false d3), if_neg (of_decide_eq_false d4), if_neg (of_decide_eq_false d5), if_neg (of_decide_eq_false d6), if_neg (of_decide_eq_false d7), dn, if_pos rfl]
        subst e
        simp only [go_sem, d2, d3, d4, d5, d6, d7, q2, dn]
        refine Cl_plain (f_choose_named l (by omega)) ?_
        simp only [go_sem]
        refine wS [] ?_
        simp only [go_sem, r_choose_choose, exists_eq_left', Option.some.injEq]
        simp [wkV, wkL, slTrees, AV.asOwn, rowPart, stoOf, AV.isNil, shA, rowsT, cellsT, cellT]
      ·have h7' := h7 (of_decide_eq_true d7)
       cases da : (call == wAlias)
       ·have e : C = (renM (fun s => piecesM s.1 ns) l) := by rw [← hE, if_neg (of_decide_eq_false d2), if_neg (of_decide_eq_false d3), if_neg (of_decide_eq_false d4), if_neg (of_decide_eq_false d5), if_neg (of_decide_eq_false d6), if_pos (of_decide_eq_true d7), da, if_neg Bool.false_ne_true]
        have hd := (f_choose_renamed n_choose_choose_5 [T.sl 1 (ns.map cellW)] (fun s => piecesM s.1 ns) l hl (fun s hs => f_choose_choose_5 ns s (hv s hs).1 hns hw (h7' da))).ren renN (by simp [keysOf, renN])
        simp only [renL, renA, renS, renO, renL_t, renN, renamedV, List.map_cons, List.map_nil] at hd
        unfold renM at e
        subst e
        simp only [go_sem, d2, d3, d4, d5, d6, d7, q1, da]
        refine oB (hd) ?_
        simp only [go_sem]
        refine wS [] ?_
        simp only [go_sem, r_choose_choose, exists_eq_left', Option.some.injEq]
        simp [wkV, wkL, slTrees, AV.asOwn, rowPart, stoOf, AV.isNil, shA, rowsT, cellsT, cellT]
       ·have e : C = (renM (fun _ => tx) l) := by rw [← hE, if_neg (of_decide_eq_false d2), if_neg (of_decide_eq_false d3), if_neg (of_decide_eq_false d4), if_neg (of_decide_eq_false d5), if_neg (of_decide_eq_false d6), if_pos (of_decide_eq_true d7), da, if_pos rfl]
        have hd := (f_choose_renamed n_choose_choose_4 [T.v (.string (toB tx))] (fun _ => tx) l hl (fun s hs => f_choose_choose_4 tx s)).ren renT (by simp [keysOf, renT])
        simp only [renL, renA, renS, renO, renL_t, renT, renamedV, List.map_cons, List.map_nil] at hd
        unfold renM at e
        subst e
        simp only [go_sem, d2, d3, d4, d5, d6, d7, q1, da]
        refine oB (hd) ?_
        simp only [go_sem]
        refine wS [] ?_
        simp only [go_sem, r_choose_choose, exists_eq_left', Option.some.injEq]
        simp [wkV, wkL, slTrees, AV.asOwn, rowPart, stoOf, AV.isNil, shA, rowsT, cellsT, cellT]
     ·have hC := f_needle_Compile_any (toB tx)
      have hlen := compM_len tx
      have e : C = (if (compM tx).2 = 0 then l.filter (q3M call (compM tx).1.1 (compM tx).1.2.1 (compM tx).1.2.2) else [], (compM tx).2) := by rw [← hE, if_neg (of_decide_eq_false d2), if_neg (of_decide_eq_false d3), if_neg (of_decide_eq_false d4), if_neg (of_decide_eq_false d5), if_pos (of_decide_eq_true d6)]
      rw [toB_data] at hC
      subst e
      generalize compM tx = y at *
      obtain ⟨⟨a, z, is⟩, er⟩ := y
      simp only at hC hlen ⊢
      simp only [go_sem, d2, d3, d4, d5, d6]
      refine Cl_plain hC ?_
      simp only [go_sem]
      cases d0 : decide (er = 0)
      ·rw [if_neg (of_decide_eq_false d0)]
       simp only [go_sem, d0]
       refine wS [] ?_
       simp only [go_sem, r_choose_choose, exists_eq_left', Option.some.injEq]
       simp [wkV, wkL, slTrees, AV.asOwn, rowPart, stoOf, AV.isNil, shA, rowsT, cellsT, cellT]
      ·rw [if_pos (of_decide_eq_true d0)]
       have hd := (f_choose_kept n_choose_choose_3 [T.v (.bool a), T.v (.bool z), T.sl 5 (is.map itemT)] [T.v (.string (toB call))] (q3M call a z is) l hl (fun s hs => f_choose_choose_3 call a z is (by omega) s (hv s hs).1)).ren renG (by simp [keysOf, renG])
       simp only [renL, renA, renS, renO, renL_t, renG, List.map_cons, List.map_nil] at hd
       simp only [go_sem, d0]
       refine oB (hd) ?_
       simp only [go_sem]
       refine wS [] ?_
       simp only [go_sem, r_choose_choose, exists_eq_left', Option.some.injEq]
       simp [wkV, wkL, slTrees, AV.asOwn, rowPart, stoOf, AV.isNil, shA, rowsT, cellsT, cellT, of_decide_eq_true d0]
    ·have hne := h4 (Or.inr (of_decide_eq_true d5))
     cases args with
     | nil => exact absurd rfl hne
     | cons x ar =>
      have e : C = (l.filter (q2M call x), 0) := by rw [← hE, if_neg (of_decide_eq_false d2), if_neg (of_decide_eq_false d3), if_neg (of_decide_eq_false d4), if_pos (of_decide_eq_true d5), List.headD_cons]
      have hd := (f_choose_kept n_choose_choose_2 [T.v (.string (toB call))] [T.sl 2 ((x :: ar).map numT)] (q2M call x) l hl (fun s hs => f_choose_choose_2 call hcl x ar s (hv s hs).2.1 (hv s hs).2.2)).ren renC (by simp [keysOf, renC])
      simp only [renL, renA, renS, renO, renL_t, renC, List.map_cons, List.map_nil] at hd
      subst e
      simp only [go_sem, d2, d3, d4, d5]
      refine oB (hd) ?_
      simp only [go_sem]
      refine wS [] ?_
      simp only [go_sem, r_choose_choose, exists_eq_left', Option.some.injEq]
      simp [wkV, wkL, slTrees, AV.asOwn, rowPart, stoOf, AV.isNil, shA, rowsT, cellsT, cellT]
   ·have hne := h4 (Or.inl (of_decide_eq_true d4))
    cases args with
    | nil => exact absurd rfl hne
    | cons x ar =>
     have e : C = (l.filter (q1M call x), 0) := by rw [← hE, if_neg (of_decide_eq_false d2), if_neg (of_decide_eq_false d3), if_pos (of_decide_eq_true d4), List.headD_cons]
     have hd := (f_choose_kept n_choose_choose_1 [T.v (.string (toB call))] [T.sl 2 ((x :: ar).map numT)] (q1M call x) l hl (fun s hs => f_choose_choose_1 call hcl x ar s (hv s hs).2.1 (hv s hs).2.2)).ren renC (by simp [keysOf, renC])
     simp only [renL, renA, renS, renO, renL_t, renC, List.map_cons, List.map_nil] at hd
     subst e
     simp only [go_sem, d2, d3, d4]
     refine oB (hd) ?_
     simp only [go_sem]
     refine wS [] ?_
     simp only [go_sem, r_choose_choose, exists_eq_left', Option.some.injEq]
     simp [wkV, wkL, slTrees, AV.asOwn, rowPart, stoOf, AV.isNil, shA, rowsT, cellsT, cellT]
  ·have e : C = (firstM (sortedM call l false) ns, 0) := by rw [← hE, if_neg (of_decide_eq_false d2), if_pos (of_decide_eq_true d3)]
   have hs := f_choose_sorted call l false hcl (by omega) (fun s hs => (hv s hs).2)
   have hf := f_choose_first (sortedM call l false) ns (by rw [sorted_len]; omega) (by omega) hw
   subst e
   simp only [go_sem, d2, d3]
   refine Cl_plain hs ?_
   simp only [go_sem]
   refine Cl_plain hf ?_
   simp only [go_sem]
   ((try (with_reducible refine rF ?_)); (try simp only [go_sem]))
   refine wS [] ?_
   simp only [go_sem, r_choose_choose, exists_eq_left', Option.some.injEq]
   simp [wkV, wkL, slTrees, AV.asOwn, rowPart, stoOf, AV.isNil, shA, rowsT, cellsT, cellT]
 ·have e : C = (firstM (sortedM call l true) ns, 0) := by rw [← hE, if_pos (of_decide_eq_true d2)]
  have hs := f_choose_sorted call l true hcl (by omega) (fun s hs => (hv s hs).2)
  have hf := f_choose_first (sortedM call l true) ns (by rw [sorted_len]; omega) (by omega) hw
  subst e
  simp only [go_sem, d2]
  refine Cl_plain hs ?_
  simp only [go_sem]
  refine Cl_plain hf ?_
  simp only [go_sem]
  ((try (with_reducible refine rF ?_)); (try simp only [go_sem]))
  refine wS [] ?_
  simp only [go_sem, r_choose_choose, exists_eq_left', Option.some.injEq]
  simp [wkV, wkL, slTrees, AV.asOwn, rowPart, stoOf, AV.isNil, shA, rowsT, cellsT, cellT]

end Go.Proofs.YtgmpceijcdimkaaGreatDoor
namespace Go.Proofs.YtgmpceijcdimkaaGreatDoor
open Go Go.Sx

theorem set_sameL {α : Type} {l : List α} {i : Nat} {x : α} (h : l[i]? = some x) : l.set i x = l := by
 obtain ⟨hi, rfl⟩ := List.getElem?_eq_some_iff.1 h
 exact List.set_getElem_self hi

theorem takes_no (l : List UInt8) (h : l ∉ ruleTab.map (·.1)) : takesR l = ((0, 0), (false, false)) := by
 rw [← takes_eq]
 unfold takesP ruledM
 rw [ruleOf_no _ _ h]
 rfl

/-- Of calls that want a number one is there. -/
theorem takes_one (call : List UInt8) : (takesR call).2.2 = true → (((ruledM call).1.1 = 4 ∨ (ruledM call).1.1 = 5) ∨ ((ruledM call).1.1 = 7 ∧ (call == wAlias) = false)) → (takesR call).1.1 = 1 := by
 refine word_cases (fun call => (takesR call).2.2 = true → (((ruledM call).1.1 = 4 ∨ (ruledM call).1.1 = 5) ∨ ((ruledM call).1.1 = 7 ∧ (call == wAlias) = false)) → (takesR call).1.1 = 1) call (by decide +kernel) fun h => ?_
 rw [takes_no _ h]
 intro e
 cases e

def badA (call : List UInt8) (args : List Num) (tx : List UInt8) : Bool :=
 decide ((args.length : Int) < (takesR call).1.1) || (decide ((takesR call).1.2 < (args.length : Int)) || (args.any (fun n => !okN n.1 n.2) || (!(tx == []) && !(takesR call).2.1)))

def nsA (call : List UInt8) (args : List Num) : List Num := if (ruledM call).1.1 = 4 ∨ (ruledM call).1.1 = 5 then [] else args

/-- What a call of a list makes of it. -/
def applyM (call : List UInt8) (l : List Ser) (args : List Num) (tx : List UInt8) : List Ser × Int :=
 if (takesR call).2.2 = false then ([], 15)
 else if l.any (fun s => !rightS s) = true then ([], 1)
 else if 128 < l.length then ([], 11)
 else if badA call args tx = true then ([], 18)
 else if (nsA call args).all wholeN = true then coreM call l args (nsA call args) tx else ([], 1)

theorem first_sub {α : Type} (l : List α) (ns : List Num) : (firstM l ns).Sublist l := by
 cases ns with
 | nil => exact List.Sublist.refl _
 | cons n ns => exact List.take_sublist _ _

theorem sorted_mem (call : List UInt8) (l : List Ser) (down : Bool) (s : Ser) : s ∈ sortedM call l down ↔ s ∈ l := by
 unfold sortedM
 rw [List.mem_map]
 constructor
 ·rintro ⟨x, hx, rfl⟩
  obtain ⟨y, hy, rfl⟩ := List.mem_map.1 ((isrt_mem _ x _).1 hx)
  exact hy
 ·intro h
  exact ⟨mesM call s, (isrt_mem _ _ _).2 (List.mem_map.2 ⟨s, h, rfl⟩), rfl⟩

theorem renM_ok (f : Ser → List UInt8) (l : List Ser) : (renM f l).1.length ≤ l.length ∧ (∀ s ∈ (renM f l).1, ∃ s' ∈ l, s.2 = s'.2) ∧ ((renM f l).2 ≠ 0 → (renM f l).1 = []) := by
 unfold renM
 split
 ·refine ⟨by simp, fun s hs => ?_, fun h => absurd rfl h⟩
  obtain ⟨s', h1, rfl⟩ := List.mem_map.1 hs
  exact ⟨s', h1, rfl⟩
 ·exact ⟨by simp, by simp, fun _ => rfl⟩

theorem core_ok (call : List UInt8) (l : List Ser) (args ns : List Num) (tx : List UInt8) : (coreM call l args ns tx).1.length ≤ l.length ∧ (∀ s ∈ (coreM call l args ns tx).1, ∃ s' ∈ l, s.2 = s'.2) ∧ ((coreM call l args ns tx).2 ≠ 0 → (coreM call l args ns tx).1 = []) := by
 have hsrt : ∀ d, (firstM (sortedM call l d) ns).length ≤ l.length ∧ (∀ s ∈ firstM (sortedM call l d) ns, ∃ s' ∈ l, s.2 = s'.2) := fun d =>
  ⟨Nat.le_trans (first_sub _ _).length_le (by rw [sorted_len]; exact Nat.le_refl _), fun s hs => ⟨s, (sorted_mem call l d s).1 ((first_sub _ _).subset hs), rfl⟩⟩
 have hfil : ∀ p : Ser → Bool, (l.filter p).length ≤ l.length ∧ (∀ s ∈ l.filter p, ∃ s' ∈ l, s.2 = s'.2) := fun p =>
  ⟨List.length_filter_le _ _, fun s hs => ⟨s, (List.mem_filter.1 hs).1, rfl⟩⟩
 unfold coreM
 split
 ·exact ⟨(hsrt true).1, (hsrt true).2, fun h => absurd rfl h⟩
 ·split
  ·exact ⟨(hsrt false).1, (hsrt false).2, fun h => absurd rfl h⟩
  ·split
   ·exact ⟨(hfil _).1, (hfil _).2, fun h => absurd rfl h⟩
   ·split
    ·exact ⟨(hfil _).1, (hfil _).2, fun h => absurd rfl h⟩
    ·split
     ·by_cases h0 : (compM tx).2 = 0
      ·rw [if_pos h0]
       exact ⟨(hfil _).1, (hfil _).2, fun h => absurd h0 h⟩
      ·rw [if_neg h0]
       exact ⟨by simp, by simp, fun _ => rfl⟩
     ·split
      ·split
       ·exact renM_ok _ l
       ·exact renM_ok _ l
      ·split
       ·refine ⟨by rw [isrt_len]; exact Nat.le_refl _, fun s hs => ⟨s, (isrt_mem _ _ _).1 hs, rfl⟩, fun h => absurd rfl h⟩
       ·exact ⟨(first_sub _ _).length_le, fun s hs => ⟨s, (first_sub _ _).subset hs, rfl⟩, fun h => absurd rfl h⟩

end Go.Proofs.YtgmpceijcdimkaaGreatDoor
namespace Go.Proofs.YtgmpceijcdimkaaGreatDoor
open Go Go.Sx

theorem bad_args {call : List UInt8} {args : List Num} {tx : List UInt8} (h : ¬ badA call args tx = true) : (takesR call).1.1 ≤ args.length ∧ (args.length : Int) ≤ (takesR call).1.2 := by
 unfold badA at h
 simp only [Bool.or_eq_true, not_or, decide_eq_true_eq] at h
 exact ⟨by omega, by omega⟩

end Go.Proofs.YtgmpceijcdimkaaGreatDoor
namespace Go.Proofs.YtgmpceijcdimkaaGreatDoor
open Go Go.Sx

theorem f_choose_Apply_1 (s : Ser) (hl : s.2.2.2.length ≤ 100000) (h : inS s) : Meets Tryz.prog E0 n_choose_Apply_1 [(.ag [Str (toB (s).1), I (s).2.1, I (s).2.2.1, numL (s).2.2.2])] [] (Bo (!rightS s)) [] := by
 refine st0 m_choose_Apply_1 ?_
 simp only [go_sem, s_choose_Apply_1]
 refine Cl_plain (f_series_Right s (by omega) h) ?_
 simp only [go_sem]
 refine wE ?_
 simp only [go_sem, r_choose_Apply_1]

theorem f_CloneN_c (e : List T) (es : List (List T)) (hl : es.length ≤ 1000000) : Meets Tryz.prog E0 n_slices_Clone_Sapi_Num_api_Num [.t (.sl 2 (e :: es))] [] (.t (.sl 2 (e :: es))) [] := by
 have h1 : (es.length + 1) * 16 ≤ 2 ^ 47 := by omega
 have h2 : es.length + 1 < 2 ^ 47 := by omega
 refine st0 m_slices_Clone_Sapi_Num_api_Num ?_
 simp only [go_sem, s_slices_Clone_Sapi_Num_api_Num, h1, h2]
 refine wS [106] ?_
 simp only [go_sem, r_slices_Clone_Sapi_Num_api_Num, exists_eq_left', Option.some.injEq]
 simp [wkV, wkL, slTrees, AV.asOwn, rowPart, stoOf, AV.isNil, shA, rowsT, cellsT, cellT, List.take_of_length_le]

theorem f_CloneN_t (l : List Num) (hl : l.length ≤ 1000000) : Meets Tryz.prog E0 n_slices_Clone_Sapi_Num_api_Num [numL l] [] (numL l) [] := by
 cases l with
 | nil => exact f_CloneN_nil
 | cons a l => exact f_CloneN_c (numT a) (l.map numT) (by simp at hl ⊢; omega)

/-- Several ways into one state. -/
theorem joinC {A P G : Prop} (hh : (A → P) → G) (key : A → P) : G := hh key

theorem f_CloneS_any (l : List Ser) (hne : l ≠ []) (hl : l.length ≤ 100000) : Meets Tryz.prog E0 n_slices_Clone_Sapi_Series_api_Series [.t (.sl 4 (l.map seT))] [] (.own 700 4 0 l.length true) [(700, .row 4 true (l.map seT))] := by
 cases l with
 | nil => exact absurd rfl hne
 | cons a l =>
  have hc := f_CloneS_own 700 (seT a) (l.map seT) (by simp at hl ⊢; omega)
  rw [List.length_map] at hc
  exact hc

theorem f_choose_Apply (call : List UInt8) (l : List Ser) (args : List Num) (tx : List UInt8) (hcl : call.length ≤ 1000000000) (hl : l.length ≤ 100000) (ha : args.length ≤ 100000) (hv : ∀ s ∈ l, s.1.length ≤ 100000 ∧ s.2.2.2.length ≤ 100000 ∧ inS s) (hn : ∀ n ∈ args, inN n) :
  Meets Tryz.prog E0 n_choose_Apply [Str (toB call), serL l, numL args, Str (toB tx)] [] (.tp [serL (applyM call l args tx).1, I (applyM call l args tx).2]) [] := by
 have hT := f_choose_Takes call hcl
 have hR := f_choose_ruled call hcl
 have hz : (l.map seT).length = l.length := by simp
 have hza : (args.map numT).length = args.length := by simp
 have hCS := f_ConT_S n_choose_Apply_1 (fun s => !rightS s) l (by omega) (fun s hs => f_choose_Apply_1 s (hv s hs).2.1 (hv s hs).2.2)
 have hCN := f_ConT_N n_choose_unknown (fun n => !okN n.1 n.2) args (by omega) (fun n h => f_choose_unknown n (hn n h).1)
 have hW := f_choose_wholes args (by omega) hn
 have q : binStr .neq (toB tx) (bs []) = some (.bool (!(tx == []))) := neT tx []
 have hone := takes_one call
 have hcore := fun ns => core_ok call l args ns tx
 have hC := fun ns h1 h2 h4 h7 => f_choose_choose call l args ns tx hcl hl hv h1 h2 h4 h7
 generalize hE : applyM call l args tx = C
 unfold applyM badA nsA at hE
 generalize hk : (ruledM call).1.1 = k at *
 generalize (ruledM call).1.2 = wy at *
 generalize (ruledM call).2 = okb at *
 generalize hTk : takesR call = t at *
 obtain ⟨⟨least, most⟩, texts, ok⟩ := t
 simp only at hE hT hone
 refine st0 m_choose_Apply ?_
 simp only [go_sem, s_choose_Apply]
 refine Cl_plain hT ?_
 cases ok
 ·rw [if_pos rfl] at hE
  subst hE
  simp only [go_sem]
  refine wS [] ?_
  simp only [go_sem, r_choose_Apply, exists_eq_left', Option.some.injEq]
  simp [wkV, wkL, slTrees, AV.asOwn, rowPart, stoOf, AV.isNil, shA, rowsT, cellsT, cellT]
 rw [if_neg (by decide)] at hE
 simp only [go_sem]
 refine Cl_plain hCS ?_
 cases hr : l.any (fun s => !rightS s)
 rotate_left
 ·rw [if_pos hr] at hE
  subst hE
  simp only [go_sem]
  refine wS [] ?_
  simp only [go_sem, r_choose_Apply, exists_eq_left', Option.some.injEq]
  simp [wkV, wkL, slTrees, AV.asOwn, rowPart, stoOf, AV.isNil, shA, rowsT, cellsT, cellT]
 rw [if_neg (by rw [hr]; decide)] at hE
 by_cases hm : 128 < l.length
 ·have d1 : decide ((128 : Int) < (l.length : Int)) = true := decide_eq_true (by omega)
  rw [if_pos hm] at hE
  subst hE
  simp only [go_sem, hz, d1]
  refine wS [] ?_
  simp only [go_sem, r_choose_Apply, exists_eq_left', Option.some.injEq]
  simp [wkV, wkL, slTrees, AV.asOwn, rowPart, stoOf, AV.isNil, shA, rowsT, cellsT, cellT]
 rw [if_neg hm] at hE
 have d1 : decide ((128 : Int) < (l.length : Int)) = false := decide_eq_false (by omega)
 have bad : badA call args tx = true → C = ([], 18) := fun h => by unfold badA at h; rw [hTk] at h; rw [if_pos h] at hE; exact hE.symm
 have good : badA call args tx = false → C = if (nsA call args).all wholeN = true then coreM call l args (nsA call args) tx else ([], 1) := fun h => by
  unfold badA at h; rw [hTk] at h; rw [if_neg (by rw [h]; decide)] at hE; unfold nsA; rw [hk]; exact hE.symm
 have hba := bad_args (call := call) (args := args) (tx := tx)
 have hbd : badA call args tx = (decide ((args.length : Int) < least) || (decide (most < (args.length : Int)) || (args.any (fun n => !okN n.1 n.2) || (!(tx == []) && !texts)))) := by unfold badA; rw [hTk]
 rw [hTk] at hba
 clear hE
 simp only [go_sem, hz, hza, d1]
 apply joinC (A := badA call args tx = false)
 ·intro key
  cases d2 : decide ((args.length : Int) < least)
  ·cases d3 : decide (most < (args.length : Int))
   ·cases hu : args.any (fun n => !okN n.1 n.2)
    ·rw [hu] at hCN
     cases d4 : (tx == [])
     ·rcases Bool.eq_false_or_eq_true (!texts) with hx | hx
      ·have hb : badA call args tx = true := by rw [hbd, d2, d3, hu, d4, hx]; rfl
       rw [bad hb]
       simp only [go_sem, hza, d2, d3]
       refine Cl_plain hCN ?_
       simp only [go_sem, q, d4, hx, Bool.not_false]
       ((try (with_reducible refine rF ?_)); (try simp only [go_sem, q, d4, hx, Bool.not_false]))
       refine wS [] ?_
       simp only [go_sem, r_choose_Apply, exists_eq_left', Option.some.injEq]
       simp [wkV, wkL, slTrees, AV.asOwn, rowPart, stoOf, AV.isNil, shA, rowsT, cellsT, cellT]
      ·have hb : badA call args tx = false := by rw [hbd, d2, d3, hu, d4, hx]; rfl
       simp only [go_sem, hza, d2, d3]
       refine Cl_plain hCN ?_
       simp only [go_sem, q, d4, hx, Bool.not_false]
       exact key hb
     ·have hb : badA call args tx = false := by rw [hbd, d2, d3, hu, d4]; rfl
      simp only [go_sem, hza, d2, d3]
      refine Cl_plain hCN ?_
      simp only [go_sem, q, d4, Bool.not_true]
      exact key hb
    ·rw [hu] at hCN
     have hb : badA call args tx = true := by rw [hbd, d2, d3, hu]; rfl
     rw [bad hb]
     simp only [go_sem, hza, d2, d3]
     refine Cl_plain hCN ?_
     simp only [go_sem, q]
     ((try (with_reducible refine rF ?_)); (try simp only [go_sem, q]))
     refine wS [] ?_
     simp only [go_sem, r_choose_Apply, exists_eq_left', Option.some.injEq]
     simp [wkV, wkL, slTrees, AV.asOwn, rowPart, stoOf, AV.isNil, shA, rowsT, cellsT, cellT]
   ·have hb : badA call args tx = true := by rw [hbd, d2, d3]; rfl
    rw [bad hb]
    simp only [go_sem, hza, d2, d3]
    ((try (with_reducible refine rF ?_)); (try simp only [go_sem, hza, d2, d3]))
    refine wS [] ?_
    simp only [go_sem, r_choose_Apply, exists_eq_left', Option.some.injEq]
    simp [wkV, wkL, slTrees, AV.asOwn, rowPart, stoOf, AV.isNil, shA, rowsT, cellsT, cellT]
  ·have hb : badA call args tx = true := by rw [hbd, d2]; rfl
   rw [bad hb]
   simp only [go_sem, hza, d2]
   ((try (with_reducible refine rF ?_)); (try simp only [go_sem, hza, d2]))
   refine wS [] ?_
   simp only [go_sem, r_choose_Apply, exists_eq_left', Option.some.injEq]
   simp [wkV, wkL, slTrees, AV.asOwn, rowPart, stoOf, AV.isNil, shA, rowsT, cellsT, cellT]
 intro hb
 have hC' := good hb
 have hlo : least ≤ (args.length : Int) := (hba (by rw [hb]; decide)).1
 have hbl := hl
 refine Cl_plain hR ?_
 by_cases h45 : k = 4 ∨ k = 5
 ·have hns : nsA call args = [] := by unfold nsA; rw [hk, if_pos h45]
  have h1 := hone rfl (Or.inl h45)
  have hane : args ≠ [] := fun e => by subst e; simp at hlo; omega
  have hc := hC [] (by simp) rfl (fun _ => hane) (fun h => by omega)
  obtain ⟨o1, o2, o3⟩ := hcore []
  rw [hns, if_pos (show ([] : List Num).all wholeN = true from rfl)] at hC'
  subst hC'
  generalize coreM call l args [] tx = R at *
  obtain ⟨R, er⟩ := R
  simp only [List.map_nil] at hc o1 o2 o3 ⊢
  have h45d : (!decide (k = 4)) = false ∨ (!decide (k = 4)) = true ∧ (!decide (k = 5)) = false := by
   rcases h45 with h | h
   ·exact Or.inl (by simp [h])
   ·exact Or.inr ⟨by simp [h], by simp [h]⟩
  apply joinC (A := True)
  ·intro key
   rcases h45d with d4 | ⟨d4, d5⟩
   ·simp only [go_sem, d4]
    ((try (with_reducible refine rF ?_)); (try simp only [go_sem, d4]))
    refine Cl_show [] hc (.one (Wk.refl _) (.one (Wk.refl _) (.one (Wk.refl _) (.one Wk.empty (.one (Wk.refl _) .nil))))) (by simp) ?_
    simp only [go_sem]
    exact key trivial
   ·simp only [go_sem, d4, d5]
    ((try (with_reducible refine rF ?_)); (try simp only [go_sem, d4, d5]))
    refine Cl_show [] hc (.one (Wk.refl _) (.one (Wk.refl _) (.one (Wk.refl _) (.one Wk.empty (.one (Wk.refl _) .nil))))) (by simp) ?_
    simp only [go_sem]
    exact key trivial
  intro _
  cases d0 : decide (er = 0)
  ·have hR : R = [] := o3 (of_decide_eq_false d0)
   subst hR
   simp only [go_sem, d0, Bool.not_false]
   refine wS [] ?_
   simp only [go_sem, r_choose_Apply, exists_eq_left', Option.some.injEq]
   simp [wkV, wkL, slTrees, AV.asOwn, rowPart, stoOf, AV.isNil, shA, rowsT, cellsT, cellT]
  ·have he := of_decide_eq_true d0
   subst he
   by_cases hne : R = []
   ·subst hne
    simp only [go_sem, d0, Bool.not_true]
    refine Cl_plain f_CloneS_nil ?_
    simp only [go_sem]
    refine W_loop (fun _ : Nat => 0) (fun i => i = 0)
     (fun i => [(17, .t (.sl 4 [])), (95, I i), (96, I i)]) (fun i => []) 0 rfl (sR [] []) ?_
    rintro i rfl
    have d00 : decide (((0 : Nat) : Int) < ((0 : Nat) : Int)) = false := rfl
    simp only [go_sem, s_choose_Apply_b0, s_choose_Apply_t1, d00]
    refine wS [] ?_
    simp only [go_sem, r_choose_Apply, exists_eq_left', Option.some.injEq]
    simp [wkV, wkL, slTrees, AV.asOwn, rowPart, stoOf, AV.isNil, shA, rowsT, cellsT, cellT]
   ·have hRz : (R.map seT).length = R.length := by simp
    simp only [go_sem, d0, Bool.not_true]
    refine Cl_new (f_CloneS_any R hne (by have o1 := o1; omega)) (by simp [keysOf, stoOf]) (by simp [keysOf]) ?_
    simp only [go_sem]
    refine W_loop (fun i : Nat => R.length - i) (fun i => i ≤ R.length)
     (fun i => [(17, .own 700 4 0 R.length true), (95, I R.length), (96, I i)])
     (fun i => [(700, .row 4 true (R.map seT))]) 0 (Nat.zero_le _) (sR [] []) ?_
    rintro i hi
    by_cases hil : i < R.length
    ·have d00 : decide (i < R.length) = true := decide_eq_true hil
     have ib : (i : Int) < (R.length : Int) := by omega
     obtain ⟨x, hx⟩ := get_of_lt hil
     have ei : IntKind.i64.wrap ((i : Int) + 1) = ((i + 1 : Nat) : Int) := by rw [wrap_i64_of (by omega) (by have o1 := o1; omega)]; omega
     have hgx : (R.map seT)[i]? = some [.v (.string (toB x.1)), .v (.int .i64 x.2.1), .v (.int .i64 x.2.2.1), .sl 2 (x.2.2.2.map numT)] := by
      rw [List.getElem?_map, hx]; rfl
     have hset := set_sameL hgx
     have hxl : x.2.2.2.length ≤ 100000 := by
      obtain ⟨s', hs', e'⟩ := o2 x (List.mem_of_getElem? hx)
      rw [e']; exact (hv s' hs').2.1
     simp only [go_sem, s_choose_Apply_b0, s_choose_Apply_t1, d00, ib, hgx]
     refine Cl_plain (f_CloneN_t x.2.2.2 (by omega)) ?_
     simp only [go_sem, s_choose_Apply_b0, s_choose_Apply_t1, d00, ib, hgx, hset, ei]
     ((try (with_reducible refine rF ?_)); (try simp only [go_sem, s_choose_Apply_b0, s_choose_Apply_t1, d00, ib, hgx, hset, ei]))
     exact rd_of (i + 1) (by first | omega | (simp only; omega)) (by omega) (sR [] [])
    ·obtain rfl : i = R.length := by omega
     have d00 : decide (R.length < R.length) = false := decide_eq_false (by omega)
     simp only [go_sem, s_choose_Apply_b0, s_choose_Apply_t1, d00]
     refine wS [700] ?_
     simp only [go_sem, r_choose_Apply, exists_eq_left', Option.some.injEq]
     simp [wkV, wkL, slTrees, AV.asOwn, rowPart, stoOf, AV.isNil, shA, rowsT, cellsT, cellT, hRz, List.take_of_length_le]
 ·have hns : nsA call args = args := by unfold nsA; rw [hk, if_neg h45]
  have d4 : (!decide (k = 4)) = true := by simp; omega
  have d5 : (!decide (k = 5)) = true := by simp; omega
  rw [hns] at hC'
  unfold wholesV at hW
  cases hw : args.all wholeN
  ·rw [hw, if_neg (by decide)] at hC' hW
   subst hC'
   simp only [go_sem, d4, d5]
   ((try (with_reducible refine rF ?_)); (try simp only [go_sem, d4, d5]))
   refine Cl_plain hW ?_
   simp only [go_sem]
   ((try (with_reducible refine rF ?_)); (try simp only [go_sem]))
   refine wS [] ?_
   simp only [go_sem, r_choose_Apply, exists_eq_left', Option.some.injEq]
   simp [wkV, wkL, slTrees, AV.asOwn, rowPart, stoOf, AV.isNil, shA, rowsT, cellsT, cellT]
  ·rw [hw, if_pos rfl] at hC' hW
   have hc := hC args ha hw (fun h => absurd h h45) (fun h7 hal e => by
    have := hone rfl (Or.inr ⟨h7, hal⟩)
    subst e; simp at hlo; omega)
   obtain ⟨o1, o2, o3⟩ := hcore args
   subst hC'
   generalize coreM call l args args tx = R at *
   obtain ⟨R, er⟩ := R
   simp only at hc o1 o2 o3 ⊢
   simp only [go_sem, d4, d5]
   ((try (with_reducible refine rF ?_)); (try simp only [go_sem, d4, d5]))
   refine Cl_plain hW ?_
   simp only [go_sem]
   ((try (with_reducible refine rF ?_)); (try simp only [go_sem]))
   refine Cl_plain hc ?_
   simp only [go_sem]
   cases d0 : decide (er = 0)
   ·have hR : R = [] := o3 (of_decide_eq_false d0)
    subst hR
    simp only [go_sem, d0, Bool.not_false]
    refine wS [] ?_
    simp only [go_sem, r_choose_Apply, exists_eq_left', Option.some.injEq]
    simp [wkV, wkL, slTrees, AV.asOwn, rowPart, stoOf, AV.isNil, shA, rowsT, cellsT, cellT]
   ·have he := of_decide_eq_true d0
    subst he
    by_cases hne : R = []
    ·subst hne
     simp only [go_sem, d0, Bool.not_true]
     refine Cl_plain f_CloneS_nil ?_
     simp only [go_sem]
     refine W_loop (fun _ : Nat => 0) (fun i => i = 0)
      (fun i => [(17, .t (.sl 4 [])), (95, I i), (96, I i)]) (fun i => []) 0 rfl (sR [] []) ?_
     rintro i rfl
     have d00 : decide (((0 : Nat) : Int) < ((0 : Nat) : Int)) = false := rfl
     simp only [go_sem, s_choose_Apply_b0, s_choose_Apply_t1, d00]
     refine wS [] ?_
     simp only [go_sem, r_choose_Apply, exists_eq_left', Option.some.injEq]
     simp [wkV, wkL, slTrees, AV.asOwn, rowPart, stoOf, AV.isNil, shA, rowsT, cellsT, cellT]
    ·have hRz : (R.map seT).length = R.length := by simp
     simp only [go_sem, d0, Bool.not_true]
     refine Cl_new (f_CloneS_any R hne (by have o1 := o1; omega)) (by simp [keysOf, stoOf]) (by simp [keysOf]) ?_
     simp only [go_sem]
     refine W_loop (fun i : Nat => R.length - i) (fun i => i ≤ R.length)
      (fun i => [(17, .own 700 4 0 R.length true), (95, I R.length), (96, I i)])
      (fun i => [(700, .row 4 true (R.map seT))]) 0 (Nat.zero_le _) (sR [] []) ?_
     rintro i hi
     by_cases hil : i < R.length
     ·have d00 : decide (i < R.length) = true := decide_eq_true hil
      have ib : (i : Int) < (R.length : Int) := by omega
      obtain ⟨x, hx⟩ := get_of_lt hil
      have ei : IntKind.i64.wrap ((i : Int) + 1) = ((i + 1 : Nat) : Int) := by rw [wrap_i64_of (by omega) (by have o1 := o1; omega)]; omega
      have hgx : (R.map seT)[i]? = some [.v (.string (toB x.1)), .v (.int .i64 x.2.1), .v (.int .i64 x.2.2.1), .sl 2 (x.2.2.2.map numT)] := by
       rw [List.getElem?_map, hx]; rfl
      have hset := set_sameL hgx
      have hxl : x.2.2.2.length ≤ 100000 := by
       obtain ⟨s', hs', e'⟩ := o2 x (List.mem_of_getElem? hx)
       rw [e']; exact (hv s' hs').2.1
      simp only [go_sem, s_choose_Apply_b0, s_choose_Apply_t1, d00, ib, hgx]
      refine Cl_plain (f_CloneN_t x.2.2.2 (by omega)) ?_
      simp only [go_sem, s_choose_Apply_b0, s_choose_Apply_t1, d00, ib, hgx, hset, ei]
      ((try (with_reducible refine rF ?_)); (try simp only [go_sem, s_choose_Apply_b0, s_choose_Apply_t1, d00, ib, hgx, hset, ei]))
      exact rd_of (i + 1) (by first | omega | (simp only; omega)) (by omega) (sR [] [])
     ·obtain rfl : i = R.length := by omega
      have d00 : decide (R.length < R.length) = false := decide_eq_false (by omega)
      simp only [go_sem, s_choose_Apply_b0, s_choose_Apply_t1, d00]
      refine wS [700] ?_
      simp only [go_sem, r_choose_Apply, exists_eq_left', Option.some.injEq]
      simp [wkV, wkL, slTrees, AV.asOwn, rowPart, stoOf, AV.isNil, shA, rowsT, cellsT, cellT, hRz, List.take_of_length_le]

end Go.Proofs.YtgmpceijcdimkaaGreatDoor
namespace Go.Proofs.YtgmpceijcdimkaaGreatDoor
open Go Go.Sx

def alA : Ser := ([97], 0, 60, [(false, 1000000)])
def alB : Ser := ([98], 0, 60, [(false, 5000000)])
def alC : Ser := ([99], 0, 60, [(false, 3000000)])
def alN : Ser := ([97, 46, 98, 46, 99], 0, 60, [(false, 1000000)])
def alM : Ser := ([99, 46, 97], 0, 60, [(false, 1000000)])
def wHighMax : List UInt8 := [104, 105, 103, 104, 101, 115, 116, 77, 97, 120]
def wSortMax : List UInt8 := [115, 111, 114, 116, 66, 121, 77, 97, 120, 105, 109, 97]
def wLimit : List UInt8 := [108, 105, 109, 105, 116]

theorem al_1 : (applyM wHighMax [alA, alB, alC] [(false, 2000000)] []).1 = [alB, alC] ∧ (applyM wHighMax [alA, alB, alC] [(false, 2000000)] []).2 = 0 := by decide +kernel
theorem al_2 : (applyM wNode [alN] [(false, 2000000), (false, 0)] []).1 = [alM] ∧ (applyM wNode [alN] [(false, 2000000), (false, 0)] []).2 = 0 := by decide +kernel

/-- How much there is, as far as is counted. -/
def greatL : List Ser → Int → Int
 | [], n => n
 | s :: l, n => if n ≤ 600 then greatL l (n + ((s.2.2.2.length : Int) + (min (s.1.length : Int) 10000) / 10)) else n

def greatB (wd tx : List UInt8) (args : List Num) (l : List Ser) : Bool := decide (600 < greatL l ((l.length : Int) + (args.length : Int))) || (decide ((1000 : Int) < (wd.length : Int)) || decide ((1000 : Int) < (tx.length : Int)))

theorem great_le : ∀ (l : List Ser) (n : Int), greatL l n ≤ 600 → n ≤ 600 ∧ (0 ≤ n → ∀ s ∈ l, s.1.length ≤ 6009 ∧ s.2.2.2.length ≤ 600)
 | [], n, h => ⟨h, fun _ s hs => absurd hs (by simp)⟩
 | s :: l, n, h => by
  unfold greatL at h
  by_cases hn : n ≤ 600
  ·rw [if_pos hn] at h
   obtain ⟨h1, h2⟩ := great_le l _ h
   refine ⟨hn, fun h0 x hx => ?_⟩
   rcases List.mem_cons.1 hx with rfl | hx
   ·exact ⟨by omega, by omega⟩
   ·exact h2 (by omega) x hx
  ·rw [if_neg hn] at h
   exact absurd h hn

theorem great_small {wd tx : List UInt8} {args : List Num} {l : List Ser} (h : greatB wd tx args l = false) : l.length ≤ 600 ∧ args.length ≤ 600 ∧ wd.length ≤ 1000 ∧ tx.length ≤ 1000 ∧ ∀ s ∈ l, s.1.length ≤ 6009 ∧ s.2.2.2.length ≤ 600 := by
 unfold greatB at h
 simp only [Bool.or_eq_false_iff, decide_eq_false_iff_not] at h
 obtain ⟨h1, h2, h3⟩ := h
 obtain ⟨g1, g2⟩ := great_le l ((l.length : Int) + (args.length : Int)) (by omega)
 exact ⟨by omega, by omega, by omega, by omega, g2 (by omega)⟩

/-- How often a series stands in a list. -/
def cntS (l : List Ser) (s : Ser) : Nat := l.countP (fun x => decide (x = s))

theorem insRev_cnt {α : Type} (lt : α → α → Bool) (p : α → Bool) (x : α) : ∀ l : List α, (insRev lt x l).countP p = l.countP p + (if p x = true then 1 else 0)
 | [] => by simp [insRev, List.countP_cons]
 | y :: l => by
  unfold insRev
  split
  ·rw [List.countP_cons, List.countP_cons, insRev_cnt lt p x l]; omega
  ·rw [List.countP_cons, List.countP_cons]

theorem isrt_cnt {α : Type} (lt : α → α → Bool) (p : α → Bool) (l : List α) : (isrt lt l).countP p = l.countP p := by
 induction l using snoc_ind with
 | h0 => rfl
 | h1 l x ih =>
  rw [isrt_snoc, List.countP_append, ← ih]
  unfold insR
  rw [List.countP_reverse, insRev_cnt, List.countP_reverse]
  simp [List.countP_cons]

theorem sorted_cnt (call : List UInt8) (l : List Ser) (d : Bool) (p : Ser → Bool) : (sortedM call l d).countP p = l.countP p := by
 rw [sorted_isrt, isrt_cnt]

theorem core_cnt (call : List UInt8) (l : List Ser) (args ns : List Num) (tx : List UInt8) (h : (ruledM call).1.1 ≠ 7) (p : Ser → Bool) : (coreM call l args ns tx).1.countP p ≤ l.countP p := by
 unfold coreM
 split
 ·exact Nat.le_trans (first_sub _ _).countP_le (by rw [sorted_cnt]; exact Nat.le_refl _)
 ·split
  ·exact Nat.le_trans (first_sub _ _).countP_le (by rw [sorted_cnt]; exact Nat.le_refl _)
  ·split
   ·exact List.filter_sublist.countP_le
   ·split
    ·exact List.filter_sublist.countP_le
    ·split
     ·split
      ·exact List.filter_sublist.countP_le
      ·simp
     ·first | rw [if_neg h] | skip
      split
      ·simp only; rw [isrt_cnt]; exact Nat.le_refl _
      ·exact (first_sub _ _).countP_le

theorem apply_cases (call : List UInt8) (l : List Ser) (args : List Num) (tx : List UInt8) : ((applyM call l args tx).1 = [] ∧ (applyM call l args tx).2 ≠ 0) ∨ ((takesR call).2.2 = true ∧ l.any (fun s => !rightS s) = false ∧ l.length ≤ 128 ∧ badA call args tx = false ∧ (nsA call args).all wholeN = true ∧ applyM call l args tx = coreM call l args (nsA call args) tx) := by
 unfold applyM
 split
 ·exact Or.inl ⟨rfl, by decide⟩
 ·split
  ·exact Or.inl ⟨rfl, by decide⟩
  ·split
   ·exact Or.inl ⟨rfl, by decide⟩
   ·split
    ·exact Or.inl ⟨rfl, by decide⟩
    ·split
     ·rename_i h1 h2 h3 h4 h5
      exact Or.inr ⟨by simpa using h1, by simpa using h2, by omega, by simpa using h4, h5, rfl⟩
     ·exact Or.inl ⟨rfl, by decide⟩

theorem apply_err {call : List UInt8} {l : List Ser} {args : List Num} {tx : List UInt8} (h : (applyM call l args tx).2 ≠ 0) : (applyM call l args tx).1 = [] := by
 rcases apply_cases call l args tx with ⟨h1, _⟩ | ⟨_, _, _, _, _, e⟩
 ·exact h1
 ·rw [e] at h ⊢
  exact (core_ok call l args (nsA call args) tx).2.2 h

theorem apply_le (call : List UInt8) (l : List Ser) (args : List Num) (tx : List UInt8) : (applyM call l args tx).1.length ≤ l.length := by
 rcases apply_cases call l args tx with ⟨h1, _⟩ | ⟨_, _, _, _, _, e⟩
 ·rw [h1]; simp
 ·rw [e]; exact (core_ok call l args (nsA call args) tx).1

theorem apply_val (call : List UInt8) (l : List Ser) (args : List Num) (tx : List UInt8) : ∀ s ∈ (applyM call l args tx).1, ∃ s' ∈ l, s.2 = s'.2 := by
 rcases apply_cases call l args tx with ⟨h1, _⟩ | ⟨_, _, _, _, _, e⟩
 ·rw [h1]; simp
 ·rw [e]; exact (core_ok call l args (nsA call args) tx).2.1

theorem kind7 (call : List UInt8) : (ruledM call).1.1 = 7 → (call == wAlias) = false → (call == wNode) = false → False := by
 refine word_cases (fun call => (ruledM call).1.1 = 7 → (call == wAlias) = false → (call == wNode) = false → False) call (by decide +kernel) fun h => ?_
 intro e
 exfalso
 have : (ruledM call).1.1 = 0 := by unfold ruledM; rw [ruleOf_no _ _ h]; rfl
 rw [this] at e
 exact absurd e (by decide)

theorem apply_cnt {call : List UInt8} {l : List Ser} {args : List Num} {tx : List UInt8} (h1 : (call == wAlias) = false) (h2 : (call == wNode) = false) (p : Ser → Bool) : (applyM call l args tx).1.countP p ≤ l.countP p := by
 rcases apply_cases call l args tx with ⟨e, _⟩ | ⟨_, _, _, _, _, e⟩
 ·rw [e]; simp
 ·rw [e]; exact core_cnt _ _ _ _ _ (fun h7 => kind7 call h7 h1 h2) p

/-- What is sorted, or a group, has all. -/
theorem sort_kind (call : List UInt8) : (takesR call).2.2 = true → (call.take 6 == wSort || call == wGroup) = true → (takesR call).1.2 = 0 ∧ ((ruledM call).1.1 = 1 ∨ (ruledM call).1.1 = 2 ∨ (ruledM call).1.1 = 3) := by
 refine word_cases (fun call => (takesR call).2.2 = true → (call.take 6 == wSort || call == wGroup) = true → (takesR call).1.2 = 0 ∧ ((ruledM call).1.1 = 1 ∨ (ruledM call).1.1 = 2 ∨ (ruledM call).1.1 = 3)) call (by decide +kernel) fun h => ?_
 rw [takes_no _ h]
 intro e
 cases e

theorem apply_all {call : List UInt8} {l : List Ser} {args : List Num} {tx : List UInt8} (h0 : (applyM call l args tx).2 = 0) (h : (call.take 6 == wSort || call == wGroup) = true) : (applyM call l args tx).1.length = l.length := by
 rcases apply_cases call l args tx with ⟨_, e⟩ | ⟨ht, _, _, hb, _, e⟩
 ·exact absurd h0 e
 ·rw [e]
  obtain ⟨k1, k2⟩ := sort_kind call ht h
  have hb2 := (bad_args (call := call) (args := args) (tx := tx) (by rw [hb]; decide)).2
  have ha : args = [] := List.eq_nil_of_length_eq_zero (by omega)
  have hn : nsA call args = [] := by unfold nsA; rw [ha]; split <;> rfl
  rw [hn]
  unfold coreM
  rcases k2 with k | k | k
  ·rw [k, if_neg (by decide), if_neg (by decide), if_neg (by decide), if_neg (by decide), if_neg (by decide), if_neg (by decide)]
   split
   ·exact isrt_len _ _
   ·rfl
  ·rw [k, if_pos rfl]; simp only [firstM]; exact sorted_len _ _ _
  ·rw [k, if_neg (by decide), if_pos rfl]; simp only [firstM]; exact sorted_len _ _ _

end Go.Proofs.YtgmpceijcdimkaaGreatDoor
namespace Go.Proofs.YtgmpceijcdimkaaGreatDoor
open Go Go.Sx

theorem apply_open {call : List UInt8} {args : List Num} {tx : List UInt8} (l : List Ser) (h1 : (takesR call).2.2 = true) (h2 : badA call args tx = false) (h3 : (nsA call args).all wholeN = true) :
  applyM call l args tx = if l.any (fun s => !rightS s) = true then ([], 1) else if 128 < l.length then ([], 11) else coreM call l args (nsA call args) tx := by
 unfold applyM
 rw [if_neg (by rw [h1]; decide), if_neg (show ¬ badA call args tx = true by rw [h2]; decide), if_pos h3]

theorem apply_bad {call : List UInt8} {args : List Num} {tx : List UInt8} (l : List Ser) (h1 : (takesR call).2.2 = true) (h2 : badA call args tx = true) :
  (applyM call l args tx).2 = if l.any (fun s => !rightS s) = true then 1 else if 128 < l.length then 11 else 18 := by
 unfold applyM
 rw [if_neg (by rw [h1]; decide), if_pos h2]
 split
 ·rfl
 ·split <;> rfl

theorem ways_grep (l : List Ser) (tx : List UInt8) : (applyM wGrep l [] tx).2 = (applyM wExcl l [] tx).2 ∧
  ((applyM wGrep l [] tx).2 = 0 → ∃ q : Ser → Bool, (applyM wGrep l [] tx).1 = l.filter q ∧ (applyM wExcl l [] tx).1 = l.filter (fun s => !q s)) := by
 have b1 : badA wGrep [] tx = false := by
  unfold badA
  rw [show takesR wGrep = ((0, 0), (true, true)) from by decide +kernel]
  simp
 have b2 : badA wExcl [] tx = false := by
  unfold badA
  rw [show takesR wExcl = ((0, 0), (true, true)) from by decide +kernel]
  simp
 have n1 : nsA wGrep [] = [] := by unfold nsA; split <;> rfl
 have n2 : nsA wExcl [] = [] := by unfold nsA; split <;> rfl
 rw [apply_open l (by decide +kernel) b1 (by rw [n1]; rfl), apply_open l (by decide +kernel) b2 (by rw [n2]; rfl), n1, n2]
 have c1 : coreM wGrep l [] [] tx = (if (compM tx).2 = 0 then l.filter (q3M wGrep (compM tx).1.1 (compM tx).1.2.1 (compM tx).1.2.2) else [], (compM tx).2) := by
  unfold coreM
  rw [show (ruledM wGrep).1.1 = 6 from by decide +kernel]
  rfl
 have c2 : coreM wExcl l [] [] tx = (if (compM tx).2 = 0 then l.filter (q3M wExcl (compM tx).1.1 (compM tx).1.2.1 (compM tx).1.2.2) else [], (compM tx).2) := by
  unfold coreM
  rw [show (ruledM wExcl).1.1 = 6 from by decide +kernel]
  rfl
 rw [c1, c2]
 split
 ·exact ⟨rfl, fun h => absurd h (by decide)⟩
 ·split
  ·exact ⟨rfl, fun h => absurd h (by decide)⟩
  ·refine ⟨rfl, fun h => ?_⟩
   have h : (compM tx).2 = 0 := h
   rw [if_pos h, if_pos h]
   refine ⟨q3M wGrep (compM tx).1.1 (compM tx).1.2.1 (compM tx).1.2.2, rfl, ?_⟩
   show List.filter _ l = List.filter _ l
   congr 1
   funext s
   unfold q3M
   rw [show (wGrep == wGrep) = true from by decide +kernel, show (wExcl == wGrep) = false from by decide +kernel]
   cases foundM (compM tx).1.1 (compM tx).1.2.1 (compM tx).1.2.2 (toB s.1).data.toList <;> rfl

theorem filt_two {α : Type} (p q : α → Bool) (h : ∀ s, p s = true → q s = false) : ∀ l : List α, (l.filter p).length + (l.filter q).length ≤ l.length
 | [] => by simp
 | x :: l => by
  have ih := filt_two p q h l
  cases hp : p x
  ·cases hq : q x
   ·rw [List.filter_cons_of_neg (by rw [hp]; decide), List.filter_cons_of_neg (by rw [hq]; decide), List.length_cons]; omega
   ·rw [List.filter_cons_of_neg (by rw [hp]; decide), List.filter_cons_of_pos hq, List.length_cons, List.length_cons]; omega
  ·rw [List.filter_cons_of_pos hp, List.filter_cons_of_neg (by rw [h x hp]; decide), List.length_cons, List.length_cons]; omega

theorem ways_ab (ca cb : List UInt8) (l : List Ser) (v : Num) (ta : takesR ca = ((1, 1), (false, true))) (tb : takesR cb = ((1, 1), (false, true))) (ka : (ruledM ca).1.1 = 4) (kb : (ruledM cb).1.1 = 5) (hw : wayR ca = wayR cb) :
  (applyM ca l [v] []).2 = (applyM cb l [v] []).2 ∧ ((applyM ca l [v] []).2 = 0 → okN v.1 v.2 = true ∧ (applyM ca l [v] []).1.length + (applyM cb l [v] []).1.length ≤ l.length) := by
 have b1 : badA ca [v] [] = !okN v.1 v.2 := by
  unfold badA
  rw [ta]
  simp
 have b2 : badA cb [v] [] = !okN v.1 v.2 := by
  unfold badA
  rw [tb]
  simp
 have n1 : nsA ca [v] = [] := by unfold nsA; rw [if_pos (Or.inl ka)]
 have n2 : nsA cb [v] = [] := by unfold nsA; rw [if_pos (Or.inr kb)]
 cases ho : okN v.1 v.2
 ·rw [ho] at b1 b2
  rw [apply_bad l (by rw [ta]) b1, apply_bad l (by rw [tb]) b2]
  refine ⟨rfl, fun h => ?_⟩
  split at h
  ·exact absurd h (by decide)
  ·split at h <;> exact absurd h (by decide)
 ·rw [ho] at b1 b2
  rw [apply_open l (by rw [ta]) b1 (by rw [n1]; rfl), apply_open l (by rw [tb]) b2 (by rw [n2]; rfl), n1, n2]
  have c1 : coreM ca l [v] [] [] = (l.filter (q1M ca v), 0) := by
   unfold coreM
   rw [ka]
   rfl
  have c2 : coreM cb l [v] [] [] = (l.filter (q2M cb v), 0) := by
   unfold coreM
   rw [kb]
   rfl
  rw [c1, c2]
  split
  ·exact ⟨rfl, fun h => absurd h (by decide)⟩
  ·split
   ·exact ⟨rfl, fun h => absurd h (by decide)⟩
   ·refine ⟨rfl, fun _ => ⟨rfl, filt_two _ _ (fun s hs => ?_) l⟩⟩
    unfold q1M at hs
    unfold q2M
    rw [hw] at hs
    have := of_decide_eq_true hs
    rw [decide_eq_false (by omega), Bool.and_false]

theorem first_law (l : List Ser) (k : Nat) (hk : k ≤ 8) : (applyM wLimit l [(false, (k : Int) * 1000000)] []).2 = (applyM wSortMax l [] []).2 ∧ (applyM wSortMax l [] []).2 = (applyM wHighMax l [(false, (k : Int) * 1000000)] []).2 ∧
  ((applyM wLimit l [(false, (k : Int) * 1000000)] []).2 = 0 → (applyM wLimit l [(false, (k : Int) * 1000000)] []).1 = l.take k ∧ (applyM wSortMax l [] []).1.length = l.length ∧ (applyM wHighMax l [(false, (k : Int) * 1000000)] []).1 = (applyM wSortMax l [] []).1.take k) := by
 have hok : okN false ((k : Int) * 1000000) = true := by unfold okN; simp; omega
 have hwh : wholeN (false, (k : Int) * 1000000) = true := by
  unfold wholeN
  simp only [Bool.and_eq_true, decide_eq_true_eq]
  omega
 have hdv : ((k : Int) * 1000000 / 1000000).toNat = k := by omega
 have b1 : badA wLimit [(false, (k : Int) * 1000000)] [] = false := by
  unfold badA
  rw [show takesR wLimit = ((1, 1), (false, true)) from by decide +kernel]
  simp [hok]
 have b2 : badA wSortMax [] [] = false := by decide +kernel
 have b3 : badA wHighMax [(false, (k : Int) * 1000000)] [] = false := by
  unfold badA
  rw [show takesR wHighMax = ((1, 1), (false, true)) from by decide +kernel]
  simp [hok]
 have n1 : nsA wLimit [(false, (k : Int) * 1000000)] = [(false, (k : Int) * 1000000)] := by unfold nsA; rw [if_neg (by decide +kernel)]
 have n2 : nsA wSortMax [] = [] := by unfold nsA; split <;> rfl
 have n3 : nsA wHighMax [(false, (k : Int) * 1000000)] = [(false, (k : Int) * 1000000)] := by unfold nsA; rw [if_neg (by decide +kernel)]
 have a1 : ([(false, (k : Int) * 1000000)] : List Num).all wholeN = true := by simp [hwh]
 rw [apply_open l (by decide +kernel) b1 (by rw [n1]; exact a1), apply_open l (by decide +kernel) b2 (by rw [n2]; rfl), apply_open l (by decide +kernel) b3 (by rw [n3]; exact a1), n1, n2, n3]
 have c1 : coreM wLimit l [(false, (k : Int) * 1000000)] [(false, (k : Int) * 1000000)] [] = (l.take k, 0) := by
  unfold coreM
  rw [show (ruledM wLimit).1.1 = 1 from by decide +kernel, show (wLimit == wByName) = false from by decide +kernel]
  simp only [firstM, hdv]
  rfl
 have c2 : coreM wSortMax l [] [] [] = (sortedM wSortMax l true, 0) := by
  unfold coreM
  rw [show (ruledM wSortMax).1.1 = 2 from by decide +kernel]
  rfl
 have hs : sortedM wHighMax l true = sortedM wSortMax l true := by
  unfold sortedM
  have : mesM wHighMax = mesM wSortMax := by
   funext s
   unfold mesM
   rw [show wayR wHighMax = wayR wSortMax from by decide +kernel]
  rw [this]
 have c3 : coreM wHighMax l [(false, (k : Int) * 1000000)] [(false, (k : Int) * 1000000)] [] = ((sortedM wSortMax l true).take k, 0) := by
  unfold coreM
  rw [show (ruledM wHighMax).1.1 = 2 from by decide +kernel, if_pos rfl, hs]
  simp only [firstM, hdv]
 rw [c1, c2, c3]
 split
 ·exact ⟨rfl, rfl, fun h => absurd h (by decide)⟩
 ·split
  ·exact ⟨rfl, rfl, fun h => absurd h (by decide)⟩
  ·exact ⟨rfl, rfl, fun _ => ⟨rfl, sorted_len _ _ _, rfl⟩⟩

/-- Where one of those that are kept stands. -/
theorem filt_at {α : Type} {q : α → Bool} {l : List α} {i : Nat} {s : α} (h : l[i]? = some s) (hq : q s = true) : (l.filter q)[(l.take i).countP q]? = some s := by
 have e : l.filter q = (l.take i).filter q ++ (l.drop i).filter q := by rw [← List.filter_append, List.take_append_drop]
 rw [e, List.countP_eq_length_filter, List.getElem?_append_right (Nat.le_refl _), Nat.sub_self, drop_get h, List.filter_cons_of_pos hq]
 rfl

theorem filt_is {α : Type} {q : α → Bool} {l : List α} {j : Nat} {s : α} (h : (l.filter q)[j]? = some s) : q s = true := (List.mem_filter.1 (List.mem_of_getElem? h)).2

theorem cnt_succ {α : Type} {q : α → Bool} {l : List α} {i : Nat} {s : α} (h : l[i]? = some s) : (l.take (i + 1)).countP q = (l.take i).countP q + (if q s = true then 1 else 0) := by
 rw [List.take_add_one, h, List.countP_append]
 simp [List.countP_cons]

end Go.Proofs.YtgmpceijcdimkaaGreatDoor
namespace Go.Proofs.YtgmpceijcdimkaaGreatDoor
open Go Go.Sx

theorem f_law27_of (nm : List UInt8) (v : Int) (hv : -1000 ≤ v ∧ v ≤ 1000) : Meets Tryz.prog E0 n_law27_of [Str (toB nm), .t (.sl 1 [[.v (.int .i64 v)]])] [] (serA (nm, 0, 60, [(false, v * 1000000)])) [] := by
 have w1 : IntKind.i64.wrap (v * 1000000) = v * 1000000 := wrap_i64_of (by omega) (by omega)
 have b16 : (16 : Nat) ≤ 2 ^ 47 := by decide
 refine st0 m_law27_of ?_
 simp only [go_sem, s_law27_of]
 refine W_loop (fun b : Bool => match b with | false => 1 | true => 0) (fun _ => True)
  (fun b => [(0, Str (toB nm)), (1, .t (.sl 1 [[.v (.int .i64 v)]])), (4, .ptr 100 0), (5, .ptr 103 0), (6, match b with | false => I (0 : Nat) | true => I (1 : Nat))])
  (fun b => match b with | false => [(103, .box [Str (toB nm), I 0, I 60, .t (.v (.slice none 0 0))]), (100, .box [Str (bs []), I 0, I 0, .t (.v (.slice none 0 0))])] | true => [(103, .box [Str (toB nm), I 0, I 60, .own 999 2 0 1 true]), (100, .box [Str (bs []), I 0, I 0, .t (.v (.slice none 0 0))]), (999, .row 2 true [[.v (.bool false), .v (.int .i64 (v * 1000000))]])]) false trivial ?_ ?_
 ·simp only
  exact (sR [] [])
 intro b _
 cases b
 ·have d0 : decide (((0 : Nat) : Int) < ((1 : Nat) : Int)) = true := rfl
  have d1 : decide (0 < 1) = true := rfl
  have e1 : IntKind.i64.wrap (((0 : Nat) : Int) + 1) = ((1 : Nat) : Int) := by decide
  simp only [go_sem, d0, d1, w1, b16]
  ((try (with_reducible refine rF ?_)); (try simp only [go_sem, e1]))
  refine rd_of true (by simp) trivial ?_
  simp only
  exact (sR [(999, 119)] [])
 ·have d0 : decide (((1 : Nat) : Int) < ((1 : Nat) : Int)) = false := rfl
  have d1 : decide (1 < 1) = false := rfl
  simp only [go_sem, d0, d1]
  refine wS [999] ?_
  simp only [go_sem, r_law27_of, exists_eq_left', Option.some.injEq]
  simp [wkV, wkL, slTrees, AV.asOwn, rowPart, stoOf, AV.isNil, shA, rowsT, cellsT, cellT, numT]

theorem f_law27_great (wd tx : List UInt8) (args : List Num) (l : List Ser) (h1 : l.length ≤ 4611686018427387904) (h2 : args.length ≤ 4611686018427387903) (h3 : ∀ s ∈ l, s.2.2.2.length ≤ 4611686018427387904) :
  Meets Tryz.prog E0 n_law27_great [.ag [Str (toB wd), numL args, Str (toB tx)], serL l] [] (Bo (greatB wd tx args l)) [] := by
 refine st0 m_law27_great ?_
 have hz : (l.map seT).length = l.length := by simp
 have hza : (args.map numT).length = args.length := by simp
 have w0 : IntKind.i64.wrap ((l.length : Int) + (args.length : Int)) = (l.length : Int) + (args.length : Int) := wrap_i64_of (by omega) (by omega)
 unfold greatB
 generalize hv : greatL l ((l.length : Int) + (args.length : Int)) = v
 simp only [go_sem, s_law27_great, hz, hza, w0]
 refine W_loop (fun i : Nat × Int => l.length - i.1) (fun i => i.1 ≤ l.length ∧ 0 ≤ i.2 ∧ i.2 ≤ 9223372036854775807 ∧ greatL (l.drop i.1) i.2 = v) (fun i => [(1, serL l), (2, .ptr 100 0), (5, I i.2), (6, I i.1)]) (fun _ => [(100, .box [Str (toB wd), numL args, Str (toB tx)])]) (0, (l.length : Int) + (args.length : Int)) ⟨Nat.zero_le _, by simp only; omega, by simp only; omega, hv⟩ (sR [] []) ?_
 rintro ⟨i, n⟩ ⟨hi, hn0, hn1, hm⟩
 simp only at hi hn0 hn1 hm
 apply joinC (A := n = v)
 ·intro key
  by_cases hil : i < l.length
  ·have d0 : decide (i < l.length) = true := decide_eq_true hil
   obtain ⟨s, hs⟩ := get_of_lt hil
   have hg : (l.map seT)[i]? = some [.v (.string (toB s.1)), .v (.int .i64 s.2.1), .v (.int .i64 s.2.2.1), .sl 2 (s.2.2.2.map numT)] := by rw [List.getElem?_map, hs]; rfl
   have hzs : (s.2.2.2.map numT).length = s.2.2.2.length := by simp
   have h3s := h3 s (List.mem_of_getElem? hs)
   rw [drop_get hs] at hm
   simp only [greatL] at hm
   by_cases hle : n ≤ 600
   ·have d1 : decide (n ≤ 600) = true := decide_eq_true hle
    have a0 : ¬ (10 : Int) = 0 := by decide
    have hmn : 0 ≤ min (s.1.length : Int) 10000 ∧ min (s.1.length : Int) 10000 ≤ 10000 := by omega
    rw [if_pos hle] at hm
    obtain ⟨mn, hmnE⟩ : ∃ mn, min (s.1.length : Int) 10000 = mn := ⟨_, rfl⟩
    rw [hmnE] at hmn hm
    have ei : IntKind.i64.wrap ((i : Int) + 1) = ((i + 1 : Nat) : Int) := by rw [wrap_i64_of (by omega) (by omega)]; omega
    have eq : mn.tdiv 10 = mn / 10 := sdiv hmn.1
    have eq2 : IntKind.i64.wrap (mn / 10) = mn / 10 := wrap_i64_of (by omega) (by omega)
    have e1 : IntKind.i64.wrap ((s.2.2.2.length : Int) + mn / 10) = (s.2.2.2.length : Int) + mn / 10 := wrap_i64_of (by omega) (by omega)
    have e2 : IntKind.i64.wrap (n + ((s.2.2.2.length : Int) + mn / 10)) = n + ((s.2.2.2.length : Int) + mn / 10) := wrap_i64_of (by omega) (by omega)
    simp only [go_sem, hz, d0, d1, hg, hzs, toB_size, hmnE, eq, eq2, e1, e2, ei]
    exact rd_of (i + 1, n + ((s.2.2.2.length : Int) + mn / 10)) (by first | omega | (simp only; omega)) ⟨by simp only; omega, by simp only; omega, by simp only; omega, hm⟩ (sR [] [])
   ·have d1 : decide (n ≤ 600) = false := decide_eq_false hle
    rw [if_neg hle] at hm
    simp only [go_sem, hz, d0, d1]
    exact key hm
  ·obtain rfl : i = l.length := by omega
   have d0 : decide (l.length < l.length) = false := decide_eq_false (by omega)
   rw [List.drop_length] at hm
   simp only [greatL] at hm
   simp only [go_sem, hz, d0]
   exact key hm
 intro hv2
 subst hv2
 cases d1 : decide (600 < n)
 ·cases d2 : decide ((1000 : Int) < (wd.length : Int))
  ·cases d3 : decide ((1000 : Int) < (tx.length : Int))
   ·simp only [go_sem, toB_size, d1, d2, d3]
    refine wE ?_
    simp only [go_sem, r_law27_great]
    first | done | rfl
   ·simp only [go_sem, toB_size, d1, d2, d3]
    refine wE ?_
    simp only [go_sem, r_law27_great]
    first | done | rfl
  ·simp only [go_sem, toB_size, d1, d2]
   refine wE ?_
   simp only [go_sem, r_law27_great]
   first | done | rfl
 ·simp only [go_sem, toB_size, d1]
  refine wE ?_
  simp only [go_sem, r_law27_great]
  first | done | rfl

theorem f_law27_count (l : List Ser) (s : Ser) (hl : l.length ≤ 1000000) (hv : ∀ s ∈ l, s.2.2.2.length ≤ maxLen) : Meets Tryz.prog E0 n_law27_count [serL l, serA s] [] (I (cntS l s : Nat)) [] := by
 refine st0 m_law27_count ?_
 have hz : (l.map seT).length = l.length := by simp
 have hle : ∀ i, (l.take i).countP (fun x => decide (x = s)) ≤ l.length := fun i => Nat.le_trans List.countP_le_length (by rw [List.length_take]; omega)
 simp only [go_sem, s_law27_count]
 refine W_loop (fun i : Nat => l.length - i) (fun i => i ≤ l.length)
  (fun i => [(0, serL l), (3, .ptr 100 0), (5, I ((l.take i).countP (fun x => decide (x = s)) : Nat)), (6, I i)]) (fun _ => [(100, .box [Str (toB s.1), I s.2.1, I s.2.2.1, numL s.2.2.2])]) 0 (Nat.zero_le _) ?_ ?_
 ·simp only [List.take_zero, List.countP_nil]
  exact (sR [] [])
 intro i hi
 by_cases hil : i < l.length
 ·have d0 : decide (i < l.length) = true := decide_eq_true hil
  obtain ⟨x, hx⟩ := get_of_lt hil
  have hgx : (l.map seT)[i]? = some [.v (.string (toB x.1)), .v (.int .i64 x.2.1), .v (.int .i64 x.2.2.1), .sl 2 (x.2.2.2.map numT)] := by rw [List.getElem?_map, hx]; rfl
  have ei : IntKind.i64.wrap ((i : Int) + 1) = ((i + 1 : Nat) : Int) := by rw [wrap_i64_of (by omega) (by omega)]; omega
  have hS := f_same14 x s (hv x (List.mem_of_getElem? hx))
  have hc := cnt_succ (q := fun x => decide (x = s)) hx
  have hli := hle i
  generalize (l.take i).countP (fun x => decide (x = s)) = c at *
  generalize hc1 : (l.take (i + 1)).countP (fun x => decide (x = s)) = c1 at *
  have ec : IntKind.i64.wrap ((c : Int) + 1) = ((c + 1 : Nat) : Int) := by rw [wrap_i64_of (by omega) (by omega)]; omega
  simp only [go_sem, hz, d0, hgx]
  refine Cl_plain hS ?_
  cases hd : decide (x = s)
  ·rw [if_neg (by rw [hd]; decide), Nat.add_zero] at hc
   simp only [go_sem, ei, ec]
   ((try (with_reducible refine rF ?_)); (try simp only [go_sem, ei, ec]))
   refine rd_of (i + 1) (by first | omega | (simp only; omega)) (by omega) ?_
   simp only [hc1, hc]
   exact (sR [] [])
  ·rw [if_pos (by rw [hd])] at hc
   simp only [go_sem, ei, ec]
   ((try (with_reducible refine rF ?_)); (try simp only [go_sem, ei, ec]))
   refine rd_of (i + 1) (by first | omega | (simp only; omega)) (by omega) ?_
   simp only [hc1, hc]
   exact (sR [] [])
 ·obtain rfl : i = l.length := by omega
  have d0 : decide (l.length < l.length) = false := decide_eq_false (by omega)
  rw [List.take_length]
  simp only [go_sem, hz, d0]
  refine wE ?_
  simp only [go_sem, r_law27_count]
  rfl

theorem apply_shape {call tx : List UInt8} {args : List Num} {l : List Ser} {R : List Ser × Int} (hv : ∀ s ∈ l, s.2.2.2.length ≤ 100000) (h : applyM call l args tx = R) : R.1.length ≤ l.length ∧ ∀ s ∈ R.1, s.2.2.2.length ≤ maxLen := by
 subst h
 refine ⟨apply_le _ _ _ _, fun s hs => ?_⟩
 obtain ⟨s', h', e'⟩ := apply_val call l args tx s hs
 rw [e']
 have := hv s' h'
 unfold maxLen
 omega

end Go.Proofs.YtgmpceijcdimkaaGreatDoor
namespace Go.Proofs.YtgmpceijcdimkaaGreatDoor
open Go Go.Sx

theorem Tryz.own : ownKnob Tryz.prog.godebug = none := by kernel_rfl

theorem Tryz.laidOut : laidOutB Tryz.prog = true := by kernel_rfl

theorem u8_wf {i : Int} (h : (Lit.int .u8 i).wf = true) : ∃ x : Nat, x < 256 ∧ i = x := by
 simp [Lit.wf, IntKind.has, IntKind.min, IntKind.max, IntKind.signed, IntKind.bits] at h
 exact ⟨i.toNat, by omega, by omega⟩

theorem i64_wf {i : Int} (h : (Lit.int .i64 i).wf = true) : -9223372036854775808 ≤ i ∧ i < 9223372036854775808 := by
 simp [Lit.wf, IntKind.has, IntKind.min, IntKind.max, IntKind.signed, IntKind.bits] at h
 omega

end Go.Proofs.YtgmpceijcdimkaaGreatDoor
