/- The library's stable sort: sorted by putting in one by one. No statement of the seat is proved here. -/
import Derived.Test.YtgablplpdocniaaSs6F
import Derived.Test.YtgablplpdocniaaSxH
set_option linter.unusedSimpArgs false
set_option linter.unusedVariables false
namespace Go.Proofs.Ytgablplpdocniaa
open Go Go.Sx

theorem f_sym_float64 (g L : Nat) (r : Bool)  (c : Nat → Nat → Int) (D : Nat → Prop) (hc : ∀ x y, D x → D y → Meets Try.prog E0 g ([(Fl x), (Fl y)] ++ []) [] (I (c x y)) []) (hO : Below3 (lt_float64 c)) (hLb : L ≤ 281474976710656) (n : Nat) :
    ∀ (p a b q : List Nat), a.length + b.length = n → a ≠ [] → b ≠ [] → (∀ x ∈ a, D x) → (∀ x ∈ b, D x) → Srt (lt_float64 c) a → Srt (lt_float64 c) b → L = (p ++ a ++ b ++ q).length →
    Meets Try.prog E0 n_slices_symMergeCmpFunc_float64 [.own 0 1 0 L r, I p.length, I (p.length + a.length : Nat), I (p.length + a.length + b.length : Nat), .fn g [] []] [(0, .row 1 true ((p ++ a ++ b ++ q).map row_float64))] (.tp []) [(0, .row 1 true ((p ++ mrg (lt_float64 c) a b ++ q).map row_float64))] := by
  induction n using Nat.strongRecOn with
  | _ n ih =>
    intro p a b q hn ha0 hb0 ha hb sa sb hL
    by_cases h1 : a.length = 1
    · obtain ⟨x, rfl⟩ := List.length_eq_one_iff.1 h1
      exact f_sym1_float64 g L r  c D hc hO p b q x (ha x (by simp)) hb sb hL hLb
    · by_cases h2 : b.length = 1
      · obtain ⟨y, rfl⟩ := List.length_eq_one_iff.1 h2
        exact f_sym2_float64 g L r  c D hc hO p a q y h1 ha0 (hb y (by simp)) ha sa hL hLb
      · exact f_sym3_float64 g L r  c D hc hO p a b q h1 ha0 h2 hb0 ha hb sa sb hL hLb fun p' a' b' q' hlt => ih _ (by omega) p' a' b' q' rfl

theorem chk_pieces_float64 {lt : Nat → Nat → Bool} (hO : Below3 lt) {s : Nat} {l : List Nat} (h0 : 0 < s) (h : 2 * s ≤ l.length) : chk lt s l = isrt lt (l.take s) ++ isrt lt ((l.drop s).take s) ++ chk lt s (l.drop (2 * s)) ∧ mrg lt (isrt lt (l.take s)) (isrt lt ((l.drop s).take s)) = isrt lt (l.take (2 * s)) ∧ chk lt (2 * s) l = isrt lt (l.take (2 * s)) ++ chk lt (2 * s) (l.drop (2 * s)) := by
  refine ⟨?_, ?_, chk_gt lt (by omega) h⟩
  · rw [chk_gt lt h0 (by omega), chk_gt lt h0 (l := l.drop s) (by rw [List.length_drop]; omega), List.drop_drop, show s + s = 2 * s by omega, List.append_assoc]
  · rw [mrg_isrt hO, show l.take (2 * s) = l.take s ++ (l.drop s).take s by rw [show 2 * s = s + s by omega, List.take_add]]

theorem chk_last_float64 {lt : Nat → Nat → Bool} (hO : Below3 lt) {s : Nat} {l : List Nat} (h0 : 0 < s) (h1 : s < l.length) (h : l.length < 2 * s) : chk lt s l = isrt lt (l.take s) ++ isrt lt (l.drop s) ∧ mrg lt (isrt lt (l.take s)) (isrt lt (l.drop s)) = isrt lt l ∧ chk lt (2 * s) l = isrt lt l := by
  refine ⟨?_, ?_, chk_le lt (by omega)⟩
  · rw [chk_gt lt h0 (by omega), chk_le lt (l := l.drop s) (by rw [List.length_drop]; omega)]
  · rw [mrg_isrt hO, List.take_append_drop]

set_option maxHeartbeats 2000000 in
theorem f_stable_float64 (g L : Nat) (r : Bool)  (c : Nat → Nat → Int) (D : Nat → Prop) (hc : ∀ x y, D x → D y → Meets Try.prog E0 g ([(Fl x), (Fl y)] ++ []) [] (I (c x y)) []) (hO : Below3 (lt_float64 c)) (hLb : L ≤ 281474976710656)
    (l : List Nat) (hL : L = l.length) (hD : ∀ x ∈ l, D x) :
    Meets Try.prog E0 n_slices_stableCmpFunc_float64 [.own 0 1 0 L r, I L, .fn g [] []] [(0, .row 1 true (l.map row_float64))] (.tp []) [(0, .row 1 true ((isrt (lt_float64 c) l).map row_float64))] := by
  refine m_slices_stableCmpFunc_float64 (by simp) (shut_of (by simp [idsL, AV.ids, keysOf]) (by simp [Ob.live, Ob.ids, keysOf, idsL, AV.ids])) (shut_of (by simp [idsL, AV.ids, keysOf]) (by simp [Ob.live, Ob.ids, keysOf, idsL, AV.ids])) (by simp [keysOf]) (by simp [keysOf]) ?_
  simp only [go_sem, s_slices_stableCmpFunc_float64, ↓reduceIte, Nat.reduceEqDiff, Nat.reduceAdd, Nat.reduceLeDiff, reduceCtorEq, Nat.reduceLT, Int.reduceLT, Int.reduceLE, Int.reduceEq, Int.reduceToNat, Nat.reduceMul]
  refine W_loop (fun s : List Nat × List Nat => s.2.length) (fun s => s.1.length + s.2.length = L ∧ (∀ x ∈ s.2, x ∈ l) ∧ s.1 ++ chk (lt_float64 c) 20 s.2 = chk (lt_float64 c) 20 l)
    (fun s => [(0, .own 0 1 0 L r), (1, I L), (2, .fn g [] []), (6, I 20), (7, I s.1.length), (8, I (s.1.length + 20 : Nat))])
    (fun s => [(0, .row 1 true ((s.1 ++ s.2).map row_float64))]) ([], l) ⟨by simp [hL], fun x h => h, rfl⟩ (subL [] [] (by simp [envS, go_sem, wkV, wkL, AV.ids, idsL, keysOf, ren, stoOf, slTrees, AV.asOwn, rowPart, AV.isNil, shA, rowsT, cellsT, cellT, wkLL] <;> assumption) (by simp [stoS, go_sem, wkV, wkL, wkO, AV.ids, Ob.ids, idsL, keysOf, ren, AV.one, stoOf, slTrees, AV.asOwn, rowPart, AV.isNil, shA, rowsT, cellsT, cellT, wkLL] <;> assumption) (by simp [keysOf, ren]) (by simp [stoOf, keysOf, ren]) (by simp [keysOf, ren]) (by simp [keysOf, ren])) ?_
  rintro ⟨dn, rs⟩ ⟨hs1, hs2, hs3⟩
  simp only at hs1 hs2 hs3 ⊢
  by_cases hlt : dn.length + 20 ≤ L
  · have d1 : decide (dn.length + 20 ≤ L) = true := decide_eq_true hlt
    have hk : (rs.take 20).length = 20 := by rw [List.length_take]; omega
    have h := f_insertion_float64 g L r  c D hc dn (rs.take 20) (rs.drop 20) (fun x hx => hD x (hs2 x (List.mem_of_mem_take hx))) (by rw [List.append_assoc, List.take_append_drop, List.length_append, hs1]) hLb
    rw [hk, List.append_assoc, List.take_append_drop] at h
    rw [chk_gt _ (by decide) (by omega), ← List.append_assoc] at hs3
    have ei : IntKind.i64.wrap (((dn.length + 20 : Nat) : Int) + 20) = ((dn.length + 20 + 20 : Nat) : Int) := wadd (y := 20) rfl (by omega)
    simp only [go_sem, d1, ↓reduceIte, Nat.reduceEqDiff, Nat.reduceAdd, Nat.reduceLeDiff, reduceCtorEq, Nat.reduceLT, Int.reduceLT, Int.reduceLE, Int.reduceEq, Int.reduceToNat, Nat.reduceMul]
    refine Cl_obj (ins := _) (hin := by simp [keysOf, stoOf]) (hk := by simp [keysOf]) (nd := by simp [keysOf]) (h := h) ?_
    simp only [go_sem, ei, ↓reduceIte, Nat.reduceEqDiff, Nat.reduceAdd, Nat.reduceLeDiff, reduceCtorEq, Nat.reduceLT, Int.reduceLT, Int.reduceLE, Int.reduceEq, Int.reduceToNat, Nat.reduceMul]
    refine rd_of (dn ++ isrt (lt_float64 c) (rs.take 20), rs.drop 20) (by simp only [List.length_drop]; omega) ⟨by simp only [List.length_append, isrt_len, hk, List.length_drop]; omega, fun x hx => hs2 x (List.mem_of_mem_drop hx), hs3⟩ ?_
    have hl1 : (dn ++ isrt (lt_float64 c) (rs.take 20)).length = dn.length + 20 := by rw [List.length_append, isrt_len, hk]
    simp only [hl1]
    exact (subL [] [] (by simp [envS, go_sem, wkV, wkL, AV.ids, idsL, keysOf, ren, stoOf, slTrees, AV.asOwn, rowPart, AV.isNil, shA, rowsT, cellsT, cellT, wkLL] <;> assumption) (by simp [stoS, go_sem, wkV, wkL, wkO, AV.ids, Ob.ids, idsL, keysOf, ren, AV.one, stoOf, slTrees, AV.asOwn, rowPart, AV.isNil, shA, rowsT, cellsT, cellT, wkLL] <;> assumption) (by simp [keysOf, ren]) (by simp [stoOf, keysOf, ren]) (by simp [keysOf, ren]) (by simp [keysOf, ren]))
  · have d1 : decide (dn.length + 20 ≤ L) = false := decide_eq_false hlt
    have h := f_insertion_float64 g L r  c D hc dn rs [] (fun x hx => hD x (hs2 x hx)) (by rw [List.append_nil, List.length_append, hs1]) hLb
    rw [hs1, List.append_nil, List.append_nil, ← chk_le (lt_float64 c) (show rs.length ≤ 20 by omega), hs3] at h
    clear hs3
    simp only [go_sem, d1, ↓reduceIte, Nat.reduceEqDiff, Nat.reduceAdd, Nat.reduceLeDiff, reduceCtorEq, Nat.reduceLT, Int.reduceLT, Int.reduceLE, Int.reduceEq, Int.reduceToNat, Nat.reduceMul]
    refine Cl_obj (ins := _) (hin := by simp [keysOf, stoOf]) (hk := by simp [keysOf]) (nd := by simp [keysOf]) (h := h) ?_
    simp only [go_sem, ↓reduceIte, Nat.reduceEqDiff, Nat.reduceAdd, Nat.reduceLeDiff, reduceCtorEq, Nat.reduceLT, Int.reduceLT, Int.reduceLE, Int.reduceEq, Int.reduceToNat, Nat.reduceMul]
    refine W_loop (fun s : Nat => L - s) (fun s => 0 < s ∧ s ≤ 2 * L + 20)
      (fun s => [(0, .own 0 1 0 L r), (1, I L), (2, .fn g [] []), (6, I s)])
      (fun s => [(0, .row 1 true ((chk (lt_float64 c) s l).map row_float64))]) 20 ⟨by decide, by omega⟩ (subL [] [] (by simp [envS, go_sem, wkV, wkL, AV.ids, idsL, keysOf, ren, stoOf, slTrees, AV.asOwn, rowPart, AV.isNil, shA, rowsT, cellsT, cellT, wkLL] <;> assumption) (by simp [stoS, go_sem, wkV, wkL, wkO, AV.ids, Ob.ids, idsL, keysOf, ren, AV.one, stoOf, slTrees, AV.asOwn, rowPart, AV.isNil, shA, rowsT, cellsT, cellT, wkLL] <;> assumption) (by simp [keysOf, ren]) (by simp [stoOf, keysOf, ren]) (by simp [keysOf, ren]) (by simp [keysOf, ren])) ?_
    clear h d1 hlt hs1 hs2
    clear dn rs
    rintro s ⟨hs0, hs1⟩
    by_cases hsl : s < L
    · have d1 : decide (s < L) = true := decide_eq_true hsl
      have e2 : IntKind.i64.wrap ((2 : Int) * (s : Int)) = ((2 * s : Nat) : Int) := by rw [wrap_i64_of (by omega) (by omega)]; omega
      have e2' : IntKind.i64.wrap ((s : Int) * (2 : Int)) = ((2 * s : Nat) : Int) := by rw [wrap_i64_of (by omega) (by omega)]; omega
      simp only [go_sem, d1, e2, ↓reduceIte, Nat.reduceEqDiff, Nat.reduceAdd, Nat.reduceLeDiff, reduceCtorEq, Nat.reduceLT, Int.reduceLT, Int.reduceLE, Int.reduceEq, Int.reduceToNat, Nat.reduceMul]
      refine W_loop (fun s : List Nat × List Nat => s.2.length) (fun t => t.1.length + t.2.length = L ∧ (∀ x ∈ t.2, x ∈ l) ∧ t.1 ++ chk (lt_float64 c) (2 * s) t.2 = chk (lt_float64 c) (2 * s) l)
        (fun t => [(0, .own 0 1 0 L r), (1, I L), (2, .fn g [] []), (6, I s), (7, I t.1.length), (8, I (t.1.length + 2 * s : Nat))])
        (fun t => [(0, .row 1 true ((t.1 ++ chk (lt_float64 c) s t.2).map row_float64))]) ([], l) ⟨by simp [hL], fun x h => h, rfl⟩ ?_ ?_
      · simp only [List.length_nil, List.nil_append, Nat.zero_add]
        exact (subL [] [] (by simp [envS, go_sem, wkV, wkL, AV.ids, idsL, keysOf, ren, stoOf, slTrees, AV.asOwn, rowPart, AV.isNil, shA, rowsT, cellsT, cellT, wkLL] <;> assumption) (by simp [stoS, go_sem, wkV, wkL, wkO, AV.ids, Ob.ids, idsL, keysOf, ren, AV.one, stoOf, slTrees, AV.asOwn, rowPart, AV.isNil, shA, rowsT, cellsT, cellT, wkLL] <;> assumption) (by simp [keysOf, ren]) (by simp [stoOf, keysOf, ren]) (by simp [keysOf, ren]) (by simp [keysOf, ren]))
      rintro ⟨dn, rs⟩ ⟨hs1, hs2, hs3⟩
      simp only at hs1 hs2 hs3 ⊢
      by_cases hlt : dn.length + 2 * s ≤ L
      · have d2 : decide (dn.length + 2 * s ≤ L) = true := decide_eq_true hlt
        obtain ⟨k1, k2, k3⟩ := chk_pieces_float64 hO hs0 (l := rs) (by omega)
        have l1 : (isrt (lt_float64 c) (rs.take s)).length = s := by rw [isrt_len, List.length_take]; omega
        have l2 : (isrt (lt_float64 c) ((rs.drop s).take s)).length = s := by rw [isrt_len, List.length_take, List.length_drop]; omega
        have l3 : (isrt (lt_float64 c) (rs.take (2 * s))).length = 2 * s := by rw [isrt_len, List.length_take]; omega
        have n1 : isrt (lt_float64 c) (rs.take s) ≠ [] := fun e => by rw [e, List.length_nil] at l1; omega
        have n2 : isrt (lt_float64 c) ((rs.drop s).take s) ≠ [] := fun e => by rw [e, List.length_nil] at l2; omega
        have h := f_sym_float64 g L r  c D hc hO hLb _ dn (isrt (lt_float64 c) (rs.take s)) (isrt (lt_float64 c) ((rs.drop s).take s)) (chk (lt_float64 c) s (rs.drop (2 * s))) rfl n1 n2
          (fun x hx => hD x (hs2 x (List.mem_of_mem_take ((isrt_mem _ _ _).1 hx)))) (fun x hx => hD x (hs2 x (List.mem_of_mem_drop (List.mem_of_mem_take ((isrt_mem _ _ _).1 hx))))) (isrt_srt hO _) (isrt_srt hO _)
          (by simp only [List.length_append, l1, l2, chk_len, List.length_drop]; omega)
        rw [l1, l2, k2, show dn ++ isrt (lt_float64 c) (rs.take s) ++ isrt (lt_float64 c) ((rs.drop s).take s) ++ chk (lt_float64 c) s (rs.drop (2 * s)) = dn ++ chk (lt_float64 c) s rs by rw [k1]; simp only [List.append_assoc], show dn.length + s + s = dn.length + 2 * s by omega] at h
        rw [k3, ← List.append_assoc] at hs3
        have e3 : IntKind.i64.wrap ((dn.length : Int) + (s : Int)) = ((dn.length + s : Nat) : Int) := wadd rfl (by omega)
        have e4 : IntKind.i64.wrap (((dn.length + 2 * s : Nat) : Int) + ((2 * s : Nat) : Int)) = ((dn.length + 2 * s + 2 * s : Nat) : Int) := wadd rfl (by omega)
        simp only [go_sem, d2, e3, ↓reduceIte, Nat.reduceEqDiff, Nat.reduceAdd, Nat.reduceLeDiff, reduceCtorEq, Nat.reduceLT, Int.reduceLT, Int.reduceLE, Int.reduceEq, Int.reduceToNat, Nat.reduceMul]
        refine Cl_obj (ins := _) (hin := by simp [keysOf, stoOf]) (hk := by simp [keysOf]) (nd := by simp [keysOf]) (h := h) ?_
        simp only [go_sem, e2, e4, ↓reduceIte, Nat.reduceEqDiff, Nat.reduceAdd, Nat.reduceLeDiff, reduceCtorEq, Nat.reduceLT, Int.reduceLT, Int.reduceLE, Int.reduceEq, Int.reduceToNat, Nat.reduceMul]
        refine rd_of (dn ++ isrt (lt_float64 c) (rs.take (2 * s)), rs.drop (2 * s)) (by simp only [List.length_drop]; omega) ⟨by simp only [List.length_append, l3, List.length_drop]; omega, fun x hx => hs2 x (List.mem_of_mem_drop hx), hs3⟩ ?_
        have hl1 : (dn ++ isrt (lt_float64 c) (rs.take (2 * s))).length = dn.length + 2 * s := by rw [List.length_append, l3]
        simp only [hl1]
        exact (subL [] [] (by simp [envS, go_sem, wkV, wkL, AV.ids, idsL, keysOf, ren, stoOf, slTrees, AV.asOwn, rowPart, AV.isNil, shA, rowsT, cellsT, cellT, wkLL] <;> assumption) (by simp [stoS, go_sem, wkV, wkL, wkO, AV.ids, Ob.ids, idsL, keysOf, ren, AV.one, stoOf, slTrees, AV.asOwn, rowPart, AV.isNil, shA, rowsT, cellsT, cellT, wkLL] <;> assumption) (by simp [keysOf, ren]) (by simp [stoOf, keysOf, ren]) (by simp [keysOf, ren]) (by simp [keysOf, ren]))
      · have d2 : decide (dn.length + 2 * s ≤ L) = false := decide_eq_false hlt
        have e3 : IntKind.i64.wrap ((dn.length : Int) + (s : Int)) = ((dn.length + s : Nat) : Int) := wadd rfl (by omega)
        by_cases hl3 : dn.length + s < L
        · have d3 : decide (dn.length + s < L) = true := decide_eq_true hl3
          obtain ⟨k1, k2, k3⟩ := chk_last_float64 hO hs0 (l := rs) (by omega) (by omega)
          have l1 : (isrt (lt_float64 c) (rs.take s)).length = s := by rw [isrt_len, List.length_take]; omega
          have l2 : (isrt (lt_float64 c) (rs.drop s)).length = rs.length - s := by rw [isrt_len, List.length_drop]
          have n1 : isrt (lt_float64 c) (rs.take s) ≠ [] := fun e => by rw [e, List.length_nil] at l1; omega
          have n2 : isrt (lt_float64 c) (rs.drop s) ≠ [] := fun e => by rw [e, List.length_nil] at l2; omega
          have h := f_sym_float64 g L r  c D hc hO hLb _ dn (isrt (lt_float64 c) (rs.take s)) (isrt (lt_float64 c) (rs.drop s)) [] rfl n1 n2
            (fun x hx => hD x (hs2 x (List.mem_of_mem_take ((isrt_mem _ _ _).1 hx)))) (fun x hx => hD x (hs2 x (List.mem_of_mem_drop ((isrt_mem _ _ _).1 hx)))) (isrt_srt hO _) (isrt_srt hO _)
            (by simp only [List.length_append, l1, l2, List.length_nil]; omega)
          rw [k3] at hs3
          rw [l1, l2, k2, List.append_nil, List.append_nil, hs3, show dn ++ isrt (lt_float64 c) (rs.take s) ++ isrt (lt_float64 c) (rs.drop s) = dn ++ chk (lt_float64 c) s rs by rw [k1]; simp only [List.append_assoc], show dn.length + s + (rs.length - s) = L by omega] at h
          simp only [go_sem, d2, e3, d3, ↓reduceIte, Nat.reduceEqDiff, Nat.reduceAdd, Nat.reduceLeDiff, reduceCtorEq, Nat.reduceLT, Int.reduceLT, Int.reduceLE, Int.reduceEq, Int.reduceToNat, Nat.reduceMul]
          refine Cl_obj (ins := _) (hin := by simp [keysOf, stoOf]) (hk := by simp [keysOf]) (nd := by simp [keysOf]) (h := h) ?_
          simp only [go_sem, e2', ↓reduceIte, Nat.reduceEqDiff, Nat.reduceAdd, Nat.reduceLeDiff, reduceCtorEq, Nat.reduceLT, Int.reduceLT, Int.reduceLE, Int.reduceEq, Int.reduceToNat, Nat.reduceMul]
          exact rd_of (2 * s) (by first | omega | (simp only; omega)) ⟨by omega, by omega⟩ (subL [] [] (by simp [envS, go_sem, wkV, wkL, AV.ids, idsL, keysOf, ren, stoOf, slTrees, AV.asOwn, rowPart, AV.isNil, shA, rowsT, cellsT, cellT, wkLL] <;> assumption) (by simp [stoS, go_sem, wkV, wkL, wkO, AV.ids, Ob.ids, idsL, keysOf, ren, AV.one, stoOf, slTrees, AV.asOwn, rowPart, AV.isNil, shA, rowsT, cellsT, cellT, wkLL] <;> assumption) (by simp [keysOf, ren]) (by simp [stoOf, keysOf, ren]) (by simp [keysOf, ren]) (by simp [keysOf, ren]))
        · have d3 : decide (dn.length + s < L) = false := decide_eq_false hl3
          rw [chk_le _ (by omega)] at hs3
          rw [chk_le (lt_float64 c) (s := s) (l := rs) (by omega), hs3]
          simp only [go_sem, d2, e3, d3, e2', ↓reduceIte, Nat.reduceEqDiff, Nat.reduceAdd, Nat.reduceLeDiff, reduceCtorEq, Nat.reduceLT, Int.reduceLT, Int.reduceLE, Int.reduceEq, Int.reduceToNat, Nat.reduceMul]
          exact rd_of (2 * s) (by first | omega | (simp only; omega)) ⟨by omega, by omega⟩ (subL [] [] (by simp [envS, go_sem, wkV, wkL, AV.ids, idsL, keysOf, ren, stoOf, slTrees, AV.asOwn, rowPart, AV.isNil, shA, rowsT, cellsT, cellT, wkLL] <;> assumption) (by simp [stoS, go_sem, wkV, wkL, wkO, AV.ids, Ob.ids, idsL, keysOf, ren, AV.one, stoOf, slTrees, AV.asOwn, rowPart, AV.isNil, shA, rowsT, cellsT, cellT, wkLL] <;> assumption) (by simp [keysOf, ren]) (by simp [stoOf, keysOf, ren]) (by simp [keysOf, ren]) (by simp [keysOf, ren]))
    · have d1 : decide (s < L) = false := decide_eq_false hsl
      rw [chk_le (lt_float64 c) (s := s) (by omega)]
      simp only [go_sem, d1, ↓reduceIte, Nat.reduceEqDiff, Nat.reduceAdd, Nat.reduceLeDiff, reduceCtorEq, Nat.reduceLT, Int.reduceLT, Int.reduceLE, Int.reduceEq, Int.reduceToNat, Nat.reduceMul]
      refine wends2 [] [] (by first | exact Or.inl rfl | exact Or.inr rfl) ?_ (by simp [AV.ids, idsL, keysOf]) (by simp [stoS, wkO, ls_cons, ls_nil, stoOf, ren, keysOf, Ob.ids, wkV, wkL, AV.one, idsL, AV.ids] <;> assumption) (by simp [keysOf, ren]) (by simp [stoOf, keysOf, ren]) (by simp [keysOf, ren]) (by simp [keysOf, ren])
      simp only [go_sem, r_slices_stableCmpFunc_float64, exists_eq_left', Option.some.injEq, ↓reduceIte, Nat.reduceEqDiff, Nat.reduceAdd, Nat.reduceLeDiff, reduceCtorEq, Nat.reduceLT, Int.reduceLT, Int.reduceLE, Int.reduceEq, Int.reduceToNat, Nat.reduceMul]
      simp [wkV, wkL, slTrees, AV.asOwn, rowPart, stoOf, AV.isNil, shA, rowsT, cellsT, cellT, ren]

theorem f_SortStable_float64 (g L : Nat) (r : Bool)  (c : Nat → Nat → Int) (D : Nat → Prop) (hc : ∀ x y, D x → D y → Meets Try.prog E0 g ([(Fl x), (Fl y)] ++ []) [] (I (c x y)) []) (hO : Below3 (lt_float64 c)) (hLb : L ≤ 281474976710656)
    (l : List Nat) (hL : L = l.length) (hD : ∀ x ∈ l, D x) :
    Meets Try.prog E0 n_slices_SortStableFunc_Sfloat64_float64 [.own 0 1 0 L r, .fn g [] []] [(0, .row 1 true (l.map row_float64))] (.tp []) [(0, .row 1 true ((isrt (lt_float64 c) l).map row_float64))] := by
  refine m_slices_SortStableFunc_Sfloat64_float64 (by simp) (shut_of (by simp [idsL, AV.ids, keysOf]) (by simp [Ob.live, Ob.ids, keysOf, idsL, AV.ids])) (shut_of (by simp [idsL, AV.ids, keysOf]) (by simp [Ob.live, Ob.ids, keysOf, idsL, AV.ids])) (by simp [keysOf]) (by simp [keysOf]) ?_
  have h := f_stable_float64 g L r  c D hc hO hLb l hL hD
  simp only [go_sem, s_slices_SortStableFunc_Sfloat64_float64, ↓reduceIte, Nat.reduceEqDiff, Nat.reduceAdd, Nat.reduceLeDiff, reduceCtorEq, Nat.reduceLT, Int.reduceLT, Int.reduceLE, Int.reduceEq, Int.reduceToNat, Nat.reduceMul]
  refine Cl_obj (ins := _) (hin := by simp [keysOf, stoOf]) (hk := by simp [keysOf]) (nd := by simp [keysOf]) (h := h) ?_
  simp only [go_sem, ↓reduceIte, Nat.reduceEqDiff, Nat.reduceAdd, Nat.reduceLeDiff, reduceCtorEq, Nat.reduceLT, Int.reduceLT, Int.reduceLE, Int.reduceEq, Int.reduceToNat, Nat.reduceMul]
  refine wends2 [] [] (by first | exact Or.inl rfl | exact Or.inr rfl) ?_ (by simp [AV.ids, idsL, keysOf]) (by simp [stoS, wkO, ls_cons, ls_nil, stoOf, ren, keysOf, Ob.ids, wkV, wkL, AV.one, idsL, AV.ids] <;> assumption) (by simp [keysOf, ren]) (by simp [stoOf, keysOf, ren]) (by simp [keysOf, ren]) (by simp [keysOf, ren])
  simp only [go_sem, r_slices_SortStableFunc_Sfloat64_float64, exists_eq_left', Option.some.injEq, ↓reduceIte, Nat.reduceEqDiff, Nat.reduceAdd, Nat.reduceLeDiff, reduceCtorEq, Nat.reduceLT, Int.reduceLT, Int.reduceLE, Int.reduceEq, Int.reduceToNat, Nat.reduceMul]
  simp [wkV, wkL, slTrees, AV.asOwn, rowPart, stoOf, AV.isNil, shA, rowsT, cellsT, cellT, ren]

end Go.Proofs.Ytgablplpdocniaa
