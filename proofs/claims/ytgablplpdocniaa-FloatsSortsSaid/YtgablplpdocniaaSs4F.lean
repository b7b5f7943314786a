/- Two sorted parts of a row made one, as the library does. No statement of the seat is proved here. -/
import Derived.Test.YtgablplpdocniaaSs3F
import Derived.Test.YtgablplpdocniaaSxH
set_option linter.unusedSimpArgs false
set_option linter.unusedVariables false
namespace Go.Proofs.Ytgablplpdocniaa
open Go Go.Sx

theorem half_float64 {x y : Nat} (h : x + y ≤ 562949953421312) : IntKind.i64.wrap ((x : Int) + (y : Int)) = ((x + y : Nat) : Int) ∧ IntKind.u64.wrap ((x + y : Nat) : Int) = ((x + y : Nat) : Int) ∧ IntKind.i64.wrap (((x + y) / 2 ^ min 1 64 : Nat) : Int) = (((x + y) / 2 : Nat) : Int) := by
  rw [show 2 ^ min 1 64 = 2 from rfl]
  refine ⟨?_, ?_, ?_⟩
  · rw [wrap_i64_of (by omega) (by omega)]; omega
  · rw [wrap_u64]; omega
  · rw [wrap_i64_of (by omega) (by omega)]

set_option maxHeartbeats 1000000 in
theorem f_sym1_float64 (g L : Nat) (r : Bool)  (c : Nat → Nat → Int) (D : Nat → Prop) (hc : ∀ x y, D x → D y → Meets Try.prog E0 g ([(Fl x), (Fl y)] ++ []) [] (I (c x y)) []) (hO : Below3 (lt_float64 c))
    (p b q : List Nat) (x : Nat) (hx : D x) (hb : ∀ y ∈ b, D y) (sb : Srt (lt_float64 c) b) (hL : L = (p ++ [x] ++ b ++ q).length) (hLb : L ≤ 281474976710656) :
    Meets Try.prog E0 n_slices_symMergeCmpFunc_float64 [.own 0 1 0 L r, I p.length, I (p.length + 1 : Nat), I (p.length + 1 + b.length : Nat), .fn g [] []] [(0, .row 1 true ((p ++ [x] ++ b ++ q).map row_float64))] (.tp []) [(0, .row 1 true ((p ++ mrg (lt_float64 c) [x] b ++ q).map row_float64))] := by
  have hLs : L = p.length + 1 + b.length + q.length := by rw [hL]; simp only [List.length_append, List.length_cons, List.length_nil]
  refine m_slices_symMergeCmpFunc_float64 (by simp) (shut_of (by simp [idsL, AV.ids, keysOf]) (by simp [Ob.live, Ob.ids, keysOf, idsL, AV.ids])) (shut_of (by simp [idsL, AV.ids, keysOf]) (by simp [Ob.live, Ob.ids, keysOf, idsL, AV.ids])) (by simp [keysOf]) (by simp [keysOf]) ?_
  have e1 : IntKind.i64.wrap (((p.length + 1 : Nat) : Int) - (p.length : Int)) = 1 := by rw [wrap_i64_of (by omega) (by omega)]; omega
  have d1 : decide ((1 : Int) = 1) = true := rfl
  simp only [go_sem, s_slices_symMergeCmpFunc_float64, e1, d1, ↓reduceIte, Nat.reduceEqDiff, Nat.reduceAdd, Nat.reduceLeDiff, reduceCtorEq, Nat.reduceLT, Int.reduceLT, Int.reduceLE, Int.reduceEq, Int.reduceToNat, Nat.reduceMul]
  refine W_loop (fun s : Nat × Nat => s.2 - s.1) (fun s => s.1 ≤ s.2 ∧ s.2 ≤ b.length ∧ (∀ i y, i + 1 = s.1 → b[i]? = some y → lt_float64 c y x = true) ∧ (∀ y, b[s.2]? = some y → lt_float64 c y x = false))
    (fun s => [(0, .own 0 1 0 L r), (1, I p.length), (4, .fn g [] []), (10, I (p.length + 1 + s.1 : Nat)), (11, I (p.length + 1 + s.2 : Nat))])
    (fun s => [(0, .row 1 true ((p ++ [x] ++ b ++ q).map row_float64))]) (0, b.length) ⟨Nat.zero_le _, Nat.le_refl _, by omega, fun y h => by simp at h⟩ (subL [] [] (by simp [envS, go_sem, wkV, wkL, AV.ids, idsL, keysOf, ren, stoOf, slTrees, AV.asOwn, rowPart, AV.isNil, shA, rowsT, cellsT, cellT, wkLL] <;> assumption) (by simp [stoS, go_sem, wkV, wkL, wkO, AV.ids, Ob.ids, idsL, keysOf, ren, AV.one, stoOf, slTrees, AV.asOwn, rowPart, AV.isNil, shA, rowsT, cellsT, cellT, wkLL] <;> assumption) (by simp [keysOf, ren]) (by simp [stoOf, keysOf, ren]) (by simp [keysOf, ren]) (by simp [keysOf, ren])) ?_
  rintro ⟨s, t⟩ ⟨hst, htb, hs, ht⟩
  simp only at hst htb hs ht ⊢
  by_cases hlt : s < t
  · have d2 : decide (p.length + 1 + s < p.length + 1 + t) = true := decide_eq_true (by omega)
    obtain ⟨h1, h2, h3⟩ := half_float64 (x := p.length + 1 + s) (y := p.length + 1 + t) (by omega)
    have hh : (p.length + 1 + s + (p.length + 1 + t)) / 2 = p.length + 1 + (s + t) / 2 := by omega
    rw [hh] at h3
    have hk1 : s ≤ (s + t) / 2 := by omega
    have hk2 : (s + t) / 2 < t := by omega
    generalize (s + t) / 2 = k at *
    obtain ⟨y, hy, hym⟩ := get_some (show k < b.length by omega)
    have hcc := hc y x (hb y hym) hx
    have g1 : ((p ++ [x] ++ b ++ q).map row_float64)[p.length + 1 + k]? = some [.v (.float .f64 y)] := by rw [List.getElem?_map, get_b (p := p) (a := [x]) (b := b) (q := q) (n := p.length + 1 + k) hy (by simp)]; rfl
    have g2 : ((p ++ [x] ++ b ++ q).map row_float64)[p.length]? = some [.v (.float .f64 x)] := by rw [List.getElem?_map, get_a (p := p) (a := [x]) (b := b) (q := q) (n := p.length) (k := 0) (y := x) rfl rfl]; rfl
    have ia : ((p.length + 1 + k : Nat) : Int) < (L : Int) := by omega
    have ib : (p.length : Int) < (L : Int) := by omega
    have ek : IntKind.i64.wrap (((p.length + 1 + k : Nat) : Int) + 1) = ((p.length + 1 + (k + 1) : Nat) : Int) := by rw [wrap_i64_of (by omega) (by omega)]; omega
    generalize hdm : (p ++ [x] ++ b ++ q).map row_float64 = dm at *
    cases hl2 : decide (c y x < 0)
    · have hl3 : lt_float64 c y x = false := hl2
      simp only [go_sem, s_slices_symMergeCmpFunc_float64_b0, d2, h1, h2, h3, ia, ib, g1, g2, ↓reduceIte, Nat.reduceEqDiff, Nat.reduceAdd, Nat.reduceLeDiff, reduceCtorEq, Nat.reduceLT, Int.reduceLT, Int.reduceLE, Int.reduceEq, Int.reduceToNat, Nat.reduceMul]
      refine Cl_plain (hcc) ?_
      simp only [go_sem, hl2, ↓reduceIte, Nat.reduceEqDiff, Nat.reduceAdd, Nat.reduceLeDiff, reduceCtorEq, Nat.reduceLT, Int.reduceLT, Int.reduceLE, Int.reduceEq, Int.reduceToNat, Nat.reduceMul]
      exact rd_of (s, k) (by first | omega | (simp only; omega)) ⟨hk1, by simp only; omega, hs, fun z hz => by simp only at hz; rw [hy] at hz; injection hz with hz; rw [← hz]; exact hl3⟩ (subL [] [] (by simp [envS, go_sem, wkV, wkL, AV.ids, idsL, keysOf, ren, stoOf, slTrees, AV.asOwn, rowPart, AV.isNil, shA, rowsT, cellsT, cellT, wkLL] <;> assumption) (by simp [stoS, go_sem, wkV, wkL, wkO, AV.ids, Ob.ids, idsL, keysOf, ren, AV.one, stoOf, slTrees, AV.asOwn, rowPart, AV.isNil, shA, rowsT, cellsT, cellT, wkLL] <;> assumption) (by simp [keysOf, ren]) (by simp [stoOf, keysOf, ren]) (by simp [keysOf, ren]) (by simp [keysOf, ren]))
    · have hl3 : lt_float64 c y x = true := hl2
      simp only [go_sem, s_slices_symMergeCmpFunc_float64_b0, d2, h1, h2, h3, ia, ib, g1, g2, ↓reduceIte, Nat.reduceEqDiff, Nat.reduceAdd, Nat.reduceLeDiff, reduceCtorEq, Nat.reduceLT, Int.reduceLT, Int.reduceLE, Int.reduceEq, Int.reduceToNat, Nat.reduceMul]
      refine Cl_plain (hcc) ?_
      simp only [go_sem, hl2, ek, ↓reduceIte, Nat.reduceEqDiff, Nat.reduceAdd, Nat.reduceLeDiff, reduceCtorEq, Nat.reduceLT, Int.reduceLT, Int.reduceLE, Int.reduceEq, Int.reduceToNat, Nat.reduceMul]
      have hnew : ∀ i z, i + 1 = k + 1 → b[i]? = some z → lt_float64 c z x = true := by
        intro i z hi hz
        obtain rfl : i = k := by omega
        rw [hy] at hz; injection hz with hz; rw [← hz]; exact hl3
      exact rd_of (k + 1, t) (by first | omega | (simp only; omega)) ⟨hk2, htb, hnew, ht⟩ (subL [] [] (by simp [envS, go_sem, wkV, wkL, AV.ids, idsL, keysOf, ren, stoOf, slTrees, AV.asOwn, rowPart, AV.isNil, shA, rowsT, cellsT, cellT, wkLL] <;> assumption) (by simp [stoS, go_sem, wkV, wkL, wkO, AV.ids, Ob.ids, idsL, keysOf, ren, AV.one, stoOf, slTrees, AV.asOwn, rowPart, AV.isNil, shA, rowsT, cellsT, cellT, wkLL] <;> assumption) (by simp [keysOf, ren]) (by simp [stoOf, keysOf, ren]) (by simp [keysOf, ren]) (by simp [keysOf, ren]))
  · obtain rfl : s = t := by omega
    have d2 : decide (p.length + 1 + s < p.length + 1 + s) = false := decide_eq_false (by omega)
    obtain ⟨b1, b2, rfl, rfl⟩ := split_at htb
    have hmrg : mrg (lt_float64 c) [x] (b1 ++ b2) = b1 ++ x :: b2 := by
      refine mrg_one_left hO x sb (fun y hy => ?_) (fun y hy => ?_)
      · obtain ⟨l1, hy⟩ := last_get hy
        exact hs (b1.length - 1) y (by omega) (by rw [List.getElem?_append_left (by omega)]; exact hy)
      · obtain ⟨l1, hy⟩ := head_get hy
        exact ht y (by rw [List.getElem?_append_right (Nat.le_refl _), Nat.sub_self]; exact hy)
    rw [hmrg]
    have eo : p ++ (b1 ++ x :: b2) ++ q = p ++ b1 ++ x :: (b2 ++ q) := by simp
    rw [eo]
    have hbl : (b1 ++ b2).length = b1.length + b2.length := List.length_append
    rw [hbl] at hLs
    have ek : IntKind.i64.wrap (((p.length + 1 + b1.length : Nat) : Int) - 1) = ((p.length + b1.length : Nat) : Int) := by rw [wrap_i64_of (by omega) (by omega)]; omega
    clear hs ht hbl hmrg
    simp only [go_sem, s_slices_symMergeCmpFunc_float64_b0, s_slices_symMergeCmpFunc_float64_t2, d2, ↓reduceIte, Nat.reduceEqDiff, Nat.reduceAdd, Nat.reduceLeDiff, reduceCtorEq, Nat.reduceLT, Int.reduceLT, Int.reduceLE, Int.reduceEq, Int.reduceToNat, Nat.reduceMul]
    refine W_loop (fun u : List Nat × List Nat => u.2.length) (fun u => b1 = u.1 ++ u.2)
      (fun u => [(0, .own 0 1 0 L r), (10, I (p.length + 1 + b1.length : Nat)), (13, I (p.length + u.1.length : Nat))])
      (fun u => [(0, .row 1 true ((p ++ u.1 ++ x :: (u.2 ++ b2 ++ q)).map row_float64))]) ([], b1) rfl ?_ ?_
    · have e2 : p ++ [x] ++ (b1 ++ b2) ++ q = p ++ [] ++ x :: (b1 ++ b2 ++ q) := by simp
      rw [e2]
      exact (subL [] [] (by simp [envS, go_sem, wkV, wkL, AV.ids, idsL, keysOf, ren, stoOf, slTrees, AV.asOwn, rowPart, AV.isNil, shA, rowsT, cellsT, cellT, wkLL] <;> assumption) (by simp [stoS, go_sem, wkV, wkL, wkO, AV.ids, Ob.ids, idsL, keysOf, ren, AV.one, stoOf, slTrees, AV.asOwn, rowPart, AV.isNil, shA, rowsT, cellsT, cellT, wkLL] <;> assumption) (by simp [keysOf, ren]) (by simp [stoOf, keysOf, ren]) (by simp [keysOf, ren]) (by simp [keysOf, ren]))
    · rintro ⟨u1, u2⟩ hu
      simp only at hu ⊢
      cases u2 with
      | nil =>
        rw [List.append_nil] at hu
        subst hu
        have d3 : decide (p.length + b1.length < p.length + b1.length) = false := decide_eq_false (by omega)
        have e2 : p ++ b1 ++ x :: ([] ++ b2 ++ q) = p ++ b1 ++ x :: (b2 ++ q) := by simp
        rw [e2]
        simp only [go_sem, s_slices_symMergeCmpFunc_float64_b1, ek, d3, ↓reduceIte, Nat.reduceEqDiff, Nat.reduceAdd, Nat.reduceLeDiff, reduceCtorEq, Nat.reduceLT, Int.reduceLT, Int.reduceLE, Int.reduceEq, Int.reduceToNat, Nat.reduceMul]
        refine wends2 [] [] (by first | exact Or.inl rfl | exact Or.inr rfl) ?_ (by simp [AV.ids, idsL, keysOf]) (by simp [stoS, wkO, ls_cons, ls_nil, stoOf, ren, keysOf, Ob.ids, wkV, wkL, AV.one, idsL, AV.ids] <;> assumption) (by simp [keysOf, ren]) (by simp [stoOf, keysOf, ren]) (by simp [keysOf, ren]) (by simp [keysOf, ren])
        simp only [go_sem, r_slices_symMergeCmpFunc_float64, exists_eq_left', Option.some.injEq, ↓reduceIte, Nat.reduceEqDiff, Nat.reduceAdd, Nat.reduceLeDiff, reduceCtorEq, Nat.reduceLT, Int.reduceLT, Int.reduceLE, Int.reduceEq, Int.reduceToNat, Nat.reduceMul]
        simp [wkV, wkL, slTrees, AV.asOwn, rowPart, stoOf, AV.isNil, shA, rowsT, cellsT, cellT, ren]
      | cons y u2 =>
        have hbl : b1.length = u1.length + (u2.length + 1) := by rw [hu]; simp
        have d3 : decide (p.length + u1.length < p.length + b1.length) = true := decide_eq_true (by omega)
        obtain ⟨g1, g2, _, _, g3, g4⟩ := sw_step (p ++ u1) x y (u2 ++ b2 ++ q) (n := p.length + u1.length) (m := p.length + (u1.length + 1)) (by simp) (by omega)
        have e2 : p ++ u1 ++ x :: (y :: u2 ++ b2 ++ q) = p ++ u1 ++ x :: y :: (u2 ++ b2 ++ q) := by simp
        rw [e2]
        have em : IntKind.i64.wrap (((p.length + u1.length : Nat) : Int) + 1) = ((p.length + (u1.length + 1) : Nat) : Int) := by rw [wrap_i64_of (by omega) (by omega)]; omega
        have ia : ((p.length + u1.length : Nat) : Int) < (L : Int) := by omega
        have ib : ((p.length + (u1.length + 1) : Nat) : Int) < (L : Int) := by omega
        have hnx : (((p ++ u1 ++ x :: y :: (u2 ++ b2 ++ q)).map row_float64).set (p.length + u1.length) [.v (.float .f64 y)]).set (p.length + (u1.length + 1)) [.v (.float .f64 x)] = (p ++ u1 ++ y :: x :: (u2 ++ b2 ++ q)).map row_float64 := by
          rw [← g4, List.map_set, List.map_set]; rfl
        have h3 : (((p ++ u1 ++ x :: y :: (u2 ++ b2 ++ q)).map row_float64).set (p.length + u1.length) [.v (.float .f64 y)])[p.length + (u1.length + 1)]? = some [.v (.float .f64 y)] := by
          have := congrArg (Option.map row_float64) g3
          rw [← List.getElem?_map, List.map_set] at this
          exact this
        have h1 : ((p ++ u1 ++ x :: y :: (u2 ++ b2 ++ q)).map row_float64)[p.length + u1.length]? = some [.v (.float .f64 x)] := by rw [List.getElem?_map, g1]; rfl
        have h2 : ((p ++ u1 ++ x :: y :: (u2 ++ b2 ++ q)).map row_float64)[p.length + (u1.length + 1)]? = some [.v (.float .f64 y)] := by rw [List.getElem?_map, g2]; rfl
        generalize hdm : List.map row_float64 (p ++ u1 ++ x :: y :: (u2 ++ b2 ++ q)) = dm at *
        simp only [go_sem, s_slices_symMergeCmpFunc_float64_b1, ek, d3, em, ia, ib, h1, h2, h3, hnx, ↓reduceIte, Nat.reduceEqDiff, Nat.reduceAdd, Nat.reduceLeDiff, reduceCtorEq, Nat.reduceLT, Int.reduceLT, Int.reduceLE, Int.reduceEq, Int.reduceToNat, Nat.reduceMul]
        refine rd_of (u1 ++ [y], u2) (by simp) (by simp only; rw [hu]; simp) ?_
        have e3 : p ++ u1 ++ y :: x :: (u2 ++ b2 ++ q) = p ++ (u1 ++ [y]) ++ x :: (u2 ++ b2 ++ q) := by simp
        rw [e3]
        simp only [List.length_append, List.length_cons, List.length_nil, Nat.zero_add]
        exact (subL [] [] (by simp [envS, go_sem, wkV, wkL, AV.ids, idsL, keysOf, ren, stoOf, slTrees, AV.asOwn, rowPart, AV.isNil, shA, rowsT, cellsT, cellT, wkLL] <;> assumption) (by simp [stoS, go_sem, wkV, wkL, wkO, AV.ids, Ob.ids, idsL, keysOf, ren, AV.one, stoOf, slTrees, AV.asOwn, rowPart, AV.isNil, shA, rowsT, cellsT, cellT, wkLL] <;> assumption) (by simp [keysOf, ren]) (by simp [stoOf, keysOf, ren]) (by simp [keysOf, ren]) (by simp [keysOf, ren]))

end Go.Proofs.Ytgablplpdocniaa
