/- Two sorted parts of a row made one, where the second one is of one item. No statement of the seat is proved here. -/
import Derived.Test.YtgablplpdocniaaSs4F
import Derived.Test.YtgablplpdocniaaSxH
set_option linter.unusedSimpArgs false
set_option linter.unusedVariables false
namespace Go.Proofs.Ytgablplpdocniaa
open Go Go.Sx

set_option maxHeartbeats 1000000 in
theorem f_sym2_float64 (g L : Nat) (r : Bool)  (c : Nat → Nat → Int) (D : Nat → Prop) (hc : ∀ x y, D x → D y → Meets Try.prog E0 g ([(Fl x), (Fl y)] ++ []) [] (I (c x y)) []) (hO : Below3 (lt_float64 c))
    (p a q : List Nat) (y : Nat) (ha1 : a.length ≠ 1) (ha0 : a ≠ []) (hy : D y) (ha : ∀ x ∈ a, D x) (sa : Srt (lt_float64 c) a) (hL : L = (p ++ a ++ [y] ++ q).length) (hLb : L ≤ 281474976710656) :
    Meets Try.prog E0 n_slices_symMergeCmpFunc_float64 [.own 0 1 0 L r, I p.length, I (p.length + a.length : Nat), I (p.length + a.length + 1 : Nat), .fn g [] []] [(0, .row 1 true ((p ++ a ++ [y] ++ q).map row_float64))] (.tp []) [(0, .row 1 true ((p ++ mrg (lt_float64 c) a [y] ++ q).map row_float64))] := by
  have hLs : L = p.length + a.length + 1 + q.length := by rw [hL]; simp only [List.length_append, List.length_cons, List.length_nil]
  obtain ⟨M, hM⟩ : ∃ M, p.length + a.length = M := ⟨_, rfl⟩
  rw [hM]
  have ha0' : 0 < a.length := List.length_pos_iff.2 ha0
  refine m_slices_symMergeCmpFunc_float64 (by simp) (shut_of (by simp [idsL, AV.ids, keysOf]) (by simp [Ob.live, Ob.ids, keysOf, idsL, AV.ids])) (shut_of (by simp [idsL, AV.ids, keysOf]) (by simp [Ob.live, Ob.ids, keysOf, idsL, AV.ids])) (by simp [keysOf]) (by simp [keysOf]) ?_
  have e1 : IntKind.i64.wrap ((M : Int) - (p.length : Int)) = (a.length : Int) := by rw [wrap_i64_of (by omega) (by omega)]; omega
  have d1 : decide ((a.length : Int) = 1) = false := decide_eq_false (by omega)
  have e2 : IntKind.i64.wrap (((M + 1 : Nat) : Int) - (M : Int)) = 1 := by rw [wrap_i64_of (by omega) (by omega)]; omega
  have d2 : decide ((1 : Int) = 1) = true := rfl
  simp only [go_sem, s_slices_symMergeCmpFunc_float64, s_slices_symMergeCmpFunc_float64_t9, e1, d1, e2, d2, ↓reduceIte, Nat.reduceEqDiff, Nat.reduceAdd, Nat.reduceLeDiff, reduceCtorEq, Nat.reduceLT, Int.reduceLT, Int.reduceLE, Int.reduceEq, Int.reduceToNat, Nat.reduceMul]
  refine W_loop (fun s : Nat × Nat => s.2 - s.1) (fun s => s.1 ≤ s.2 ∧ s.2 ≤ a.length ∧ (∀ i z, i + 1 = s.1 → a[i]? = some z → lt_float64 c y z = false) ∧ (∀ z, a[s.2]? = some z → lt_float64 c y z = true))
    (fun s => [(0, .own 0 1 0 L r), (1, I p.length), (2, I M), (4, .fn g [] []), (14, I (p.length + s.1 : Nat)), (15, I (p.length + s.2 : Nat))])
    (fun s => [(0, .row 1 true ((p ++ a ++ [y] ++ q).map row_float64))]) (0, a.length) ⟨Nat.zero_le _, Nat.le_refl _, by omega, fun y h => by simp at h⟩ ?_ ?_
  · simp only [hM, Nat.add_zero]
    exact (subL [] [] (by simp [envS, go_sem, wkV, wkL, AV.ids, idsL, keysOf, ren, stoOf, slTrees, AV.asOwn, rowPart, AV.isNil, shA, rowsT, cellsT, cellT, wkLL] <;> assumption) (by simp [stoS, go_sem, wkV, wkL, wkO, AV.ids, Ob.ids, idsL, keysOf, ren, AV.one, stoOf, slTrees, AV.asOwn, rowPart, AV.isNil, shA, rowsT, cellsT, cellT, wkLL] <;> assumption) (by simp [keysOf, ren]) (by simp [stoOf, keysOf, ren]) (by simp [keysOf, ren]) (by simp [keysOf, ren]))
  rintro ⟨s, t⟩ ⟨hst, hta, hs, ht⟩
  simp only at hst hta hs ht ⊢
  by_cases hlt : s < t
  · have d2 : decide (p.length + s < p.length + t) = true := decide_eq_true (by omega)
    obtain ⟨h1, h2, h3⟩ := half_float64 (x := p.length + s) (y := p.length + t) (by omega)
    have hh : (p.length + s + (p.length + t)) / 2 = p.length + (s + t) / 2 := by omega
    rw [hh] at h3
    have hk1 : s ≤ (s + t) / 2 := by omega
    have hk2 : (s + t) / 2 < t := by omega
    generalize (s + t) / 2 = k at *
    obtain ⟨z, hz, hzm⟩ := get_some (show k < a.length by omega)
    have hcc := hc y z hy (ha z hzm)
    have g1 : ((p ++ a ++ [y] ++ q).map row_float64)[M]? = some [.v (.float .f64 y)] := by rw [List.getElem?_map, get_b (p := p) (a := a) (b := [y]) (q := q) (n := M) (k := 0) (y := y) rfl (by omega)]; rfl
    have g2 : ((p ++ a ++ [y] ++ q).map row_float64)[p.length + k]? = some [.v (.float .f64 z)] := by rw [List.getElem?_map, get_a (p := p) (a := a) (b := [y]) (q := q) (n := p.length + k) hz rfl]; rfl
    have ia : ((p.length + k : Nat) : Int) < (L : Int) := by omega
    have ib : (M : Int) < (L : Int) := by omega
    have ek : IntKind.i64.wrap (((p.length + k : Nat) : Int) + 1) = ((p.length + (k + 1) : Nat) : Int) := by rw [wrap_i64_of (by omega) (by omega)]; omega
    generalize hdm : (p ++ a ++ [y] ++ q).map row_float64 = dm at *
    cases hl2 : decide (c y z < 0)
    · have hl3 : lt_float64 c y z = false := hl2
      have hnew : ∀ i x, i + 1 = k + 1 → a[i]? = some x → lt_float64 c y x = false := by
        intro i x hi hx
        obtain rfl : i = k := by omega
        rw [hz] at hx; injection hx with hx; rw [← hx]; exact hl3
      simp only [go_sem, s_slices_symMergeCmpFunc_float64_b3, d2, h1, h2, h3, ia, ib, g1, g2, ↓reduceIte, Nat.reduceEqDiff, Nat.reduceAdd, Nat.reduceLeDiff, reduceCtorEq, Nat.reduceLT, Int.reduceLT, Int.reduceLE, Int.reduceEq, Int.reduceToNat, Nat.reduceMul]
      refine Cl_plain (hcc) ?_
      simp only [go_sem, hl2, ek, ↓reduceIte, Nat.reduceEqDiff, Nat.reduceAdd, Nat.reduceLeDiff, reduceCtorEq, Nat.reduceLT, Int.reduceLT, Int.reduceLE, Int.reduceEq, Int.reduceToNat, Nat.reduceMul]
      exact rd_of (k + 1, t) (by first | omega | (simp only; omega)) ⟨hk2, hta, hnew, ht⟩ (subL [] [] (by simp [envS, go_sem, wkV, wkL, AV.ids, idsL, keysOf, ren, stoOf, slTrees, AV.asOwn, rowPart, AV.isNil, shA, rowsT, cellsT, cellT, wkLL] <;> assumption) (by simp [stoS, go_sem, wkV, wkL, wkO, AV.ids, Ob.ids, idsL, keysOf, ren, AV.one, stoOf, slTrees, AV.asOwn, rowPart, AV.isNil, shA, rowsT, cellsT, cellT, wkLL] <;> assumption) (by simp [keysOf, ren]) (by simp [stoOf, keysOf, ren]) (by simp [keysOf, ren]) (by simp [keysOf, ren]))
    · have hl3 : lt_float64 c y z = true := hl2
      have hnew : ∀ x, a[k]? = some x → lt_float64 c y x = true := by
        intro x hx
        rw [hz] at hx; injection hx with hx; rw [← hx]; exact hl3
      simp only [go_sem, s_slices_symMergeCmpFunc_float64_b3, d2, h1, h2, h3, ia, ib, g1, g2, ↓reduceIte, Nat.reduceEqDiff, Nat.reduceAdd, Nat.reduceLeDiff, reduceCtorEq, Nat.reduceLT, Int.reduceLT, Int.reduceLE, Int.reduceEq, Int.reduceToNat, Nat.reduceMul]
      refine Cl_plain (hcc) ?_
      simp only [go_sem, hl2, ↓reduceIte, Nat.reduceEqDiff, Nat.reduceAdd, Nat.reduceLeDiff, reduceCtorEq, Nat.reduceLT, Int.reduceLT, Int.reduceLE, Int.reduceEq, Int.reduceToNat, Nat.reduceMul]
      exact rd_of (s, k) (by first | omega | (simp only; omega)) ⟨hk1, by simp only; omega, hs, hnew⟩ (subL [] [] (by simp [envS, go_sem, wkV, wkL, AV.ids, idsL, keysOf, ren, stoOf, slTrees, AV.asOwn, rowPart, AV.isNil, shA, rowsT, cellsT, cellT, wkLL] <;> assumption) (by simp [stoS, go_sem, wkV, wkL, wkO, AV.ids, Ob.ids, idsL, keysOf, ren, AV.one, stoOf, slTrees, AV.asOwn, rowPart, AV.isNil, shA, rowsT, cellsT, cellT, wkLL] <;> assumption) (by simp [keysOf, ren]) (by simp [stoOf, keysOf, ren]) (by simp [keysOf, ren]) (by simp [keysOf, ren]))
  · obtain rfl : s = t := by omega
    have d2 : decide (p.length + s < p.length + s) = false := decide_eq_false (by omega)
    obtain ⟨a1, a2, rfl, rfl⟩ := split_at hta
    have hmrg : mrg (lt_float64 c) (a1 ++ a2) [y] = a1 ++ y :: a2 := by
      refine mrg_one_right hO y sa (fun z hz => ?_) (fun z hz => ?_)
      · obtain ⟨l1, hz⟩ := last_get hz
        exact hs (a1.length - 1) z (by omega) (by rw [List.getElem?_append_left (by omega)]; exact hz)
      · obtain ⟨l1, hz⟩ := head_get hz
        exact ht z (by rw [List.getElem?_append_right (Nat.le_refl _), Nat.sub_self]; exact hz)
    rw [hmrg]
    have eo : p ++ (a1 ++ y :: a2) ++ q = p ++ a1 ++ y :: (a2 ++ q) := by simp
    rw [eo]
    have hal : (a1 ++ a2).length = a1.length + a2.length := List.length_append
    rw [hal] at hLs hM
    clear hs ht hal hmrg e1 d1 ha0' ha1 hta
    simp only [go_sem, s_slices_symMergeCmpFunc_float64_b3, s_slices_symMergeCmpFunc_float64_t5, d2, ↓reduceIte, Nat.reduceEqDiff, Nat.reduceAdd, Nat.reduceLeDiff, reduceCtorEq, Nat.reduceLT, Int.reduceLT, Int.reduceLE, Int.reduceEq, Int.reduceToNat, Nat.reduceMul]
    refine W_loop (fun u : List Nat × List Nat => u.1.length) (fun u => a2 = u.1 ++ u.2)
      (fun u => [(0, .own 0 1 0 L r), (14, I (p.length + a1.length : Nat)), (17, I (p.length + a1.length + u.1.length : Nat))])
      (fun u => [(0, .row 1 true ((p ++ a1 ++ u.1 ++ y :: (u.2 ++ q)).map row_float64))]) (a2, []) (by simp) ?_ ?_
    · have e2 : p ++ (a1 ++ a2) ++ [y] ++ q = p ++ a1 ++ a2 ++ y :: ([] ++ q) := by simp
      rw [e2, ← hM]
      simp only [Nat.add_assoc]
      exact (subL [] [] (by simp [envS, go_sem, wkV, wkL, AV.ids, idsL, keysOf, ren, stoOf, slTrees, AV.asOwn, rowPart, AV.isNil, shA, rowsT, cellsT, cellT, wkLL] <;> assumption) (by simp [stoS, go_sem, wkV, wkL, wkO, AV.ids, Ob.ids, idsL, keysOf, ren, AV.one, stoOf, slTrees, AV.asOwn, rowPart, AV.isNil, shA, rowsT, cellsT, cellT, wkLL] <;> assumption) (by simp [keysOf, ren]) (by simp [stoOf, keysOf, ren]) (by simp [keysOf, ren]) (by simp [keysOf, ren]))
    · rintro ⟨u1, u2⟩ hu
      simp only at hu ⊢
      rcases nil_or_snoc u1 with rfl | ⟨u1, z, rfl⟩
      · rw [List.nil_append] at hu
        subst hu
        have d3 : decide (p.length + a1.length < p.length + a1.length) = false := decide_eq_false (by omega)
        simp only [List.append_nil, List.length_nil, Nat.add_zero]
        simp only [go_sem, s_slices_symMergeCmpFunc_float64_b4, d3, ↓reduceIte, Nat.reduceEqDiff, Nat.reduceAdd, Nat.reduceLeDiff, reduceCtorEq, Nat.reduceLT, Int.reduceLT, Int.reduceLE, Int.reduceEq, Int.reduceToNat, Nat.reduceMul]
        refine wends2 [] [] (by first | exact Or.inl rfl | exact Or.inr rfl) ?_ (by simp [AV.ids, idsL, keysOf]) (by simp [stoS, wkO, ls_cons, ls_nil, stoOf, ren, keysOf, Ob.ids, wkV, wkL, AV.one, idsL, AV.ids] <;> assumption) (by simp [keysOf, ren]) (by simp [stoOf, keysOf, ren]) (by simp [keysOf, ren]) (by simp [keysOf, ren])
        simp only [go_sem, r_slices_symMergeCmpFunc_float64, exists_eq_left', Option.some.injEq, ↓reduceIte, Nat.reduceEqDiff, Nat.reduceAdd, Nat.reduceLeDiff, reduceCtorEq, Nat.reduceLT, Int.reduceLT, Int.reduceLE, Int.reduceEq, Int.reduceToNat, Nat.reduceMul]
        simp [wkV, wkL, slTrees, AV.asOwn, rowPart, stoOf, AV.isNil, shA, rowsT, cellsT, cellT, ren]
      · have hal : a2.length = u1.length + 1 + u2.length := by rw [hu]; simp; omega
        have hl1 : (u1 ++ [z]).length = u1.length + 1 := by simp
        simp only [hl1]
        have d3 : decide (p.length + a1.length < p.length + a1.length + (u1.length + 1)) = true := decide_eq_true (by omega)
        obtain ⟨g1, g2, g3, g4, _⟩ := sw_step (p ++ a1 ++ u1) z y (u2 ++ q) (n := p.length + a1.length + u1.length) (m := p.length + a1.length + (u1.length + 1)) (by simp; omega) (by omega)
        have e2 : p ++ a1 ++ (u1 ++ [z]) ++ y :: (u2 ++ q) = p ++ a1 ++ u1 ++ z :: y :: (u2 ++ q) := by simp
        rw [e2]
        have em : IntKind.i64.wrap (((p.length + a1.length + (u1.length + 1) : Nat) : Int) - 1) = ((p.length + a1.length + u1.length : Nat) : Int) := by rw [wrap_i64_of (by omega) (by omega)]; omega
        have ia : ((p.length + a1.length + u1.length : Nat) : Int) < (L : Int) := by omega
        have ib : ((p.length + a1.length + (u1.length + 1) : Nat) : Int) < (L : Int) := by omega
        have hnx : (((p ++ a1 ++ u1 ++ z :: y :: (u2 ++ q)).map row_float64).set (p.length + a1.length + (u1.length + 1)) [.v (.float .f64 z)]).set (p.length + a1.length + u1.length) [.v (.float .f64 y)] = (p ++ a1 ++ u1 ++ y :: z :: (u2 ++ q)).map row_float64 := by
          rw [← g4, List.map_set, List.map_set]; rfl
        have h3 : (((p ++ a1 ++ u1 ++ z :: y :: (u2 ++ q)).map row_float64).set (p.length + a1.length + (u1.length + 1)) [.v (.float .f64 z)])[p.length + a1.length + u1.length]? = some [.v (.float .f64 z)] := by
          have := congrArg (Option.map row_float64) g3
          rw [← List.getElem?_map, List.map_set] at this
          exact this
        have h1 : ((p ++ a1 ++ u1 ++ z :: y :: (u2 ++ q)).map row_float64)[p.length + a1.length + u1.length]? = some [.v (.float .f64 z)] := by rw [List.getElem?_map, g1]; rfl
        have h2 : ((p ++ a1 ++ u1 ++ z :: y :: (u2 ++ q)).map row_float64)[p.length + a1.length + (u1.length + 1)]? = some [.v (.float .f64 y)] := by rw [List.getElem?_map, g2]; rfl
        generalize hdm : List.map row_float64 (p ++ a1 ++ u1 ++ z :: y :: (u2 ++ q)) = dm at *
        simp only [go_sem, s_slices_symMergeCmpFunc_float64_b4, d3, em, ia, ib, h1, h2, h3, hnx, ↓reduceIte, Nat.reduceEqDiff, Nat.reduceAdd, Nat.reduceLeDiff, reduceCtorEq, Nat.reduceLT, Int.reduceLT, Int.reduceLE, Int.reduceEq, Int.reduceToNat, Nat.reduceMul]
        refine rd_of (u1, z :: u2) (by simp) (by simp only; rw [hu]; simp) ?_
        exact (subL [] [] (by simp [envS, go_sem, wkV, wkL, AV.ids, idsL, keysOf, ren, stoOf, slTrees, AV.asOwn, rowPart, AV.isNil, shA, rowsT, cellsT, cellT, wkLL] <;> assumption) (by simp [stoS, go_sem, wkV, wkL, wkO, AV.ids, Ob.ids, idsL, keysOf, ren, AV.one, stoOf, slTrees, AV.asOwn, rowPart, AV.isNil, shA, rowsT, cellsT, cellT, wkLL] <;> assumption) (by simp [keysOf, ren]) (by simp [stoOf, keysOf, ren]) (by simp [keysOf, ren]) (by simp [keysOf, ren]))

end Go.Proofs.Ytgablplpdocniaa
