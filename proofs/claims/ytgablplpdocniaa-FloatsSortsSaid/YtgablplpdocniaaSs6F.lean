/- Two sorted parts of a row made one: the whole. No statement of the seat is proved here. -/
import Derived.Test.YtgablplpdocniaaSs5F
import Derived.Test.YtgablplpdocniaaSxH
set_option linter.unusedSimpArgs false
set_option linter.unusedVariables false
namespace Go.Proofs.Ytgablplpdocniaa
open Go Go.Sx

set_option maxHeartbeats 4000000 in
theorem sym_tail_float64 (io : List Nat) (Q : Exit → St → Prop) (k : List Kt) (env : List (Nat × AV)) (g L : Nat) (r : Bool)  (P M N P1 E1 H Z0 : Nat) (D1 D2 D3 D4 : List Nat) (v1 v2 w1 w2 : Bool)
    (e0 : lk 0 env = .own 0 1 0 L r) (e1 : lk 1 env = I P) (e2 : lk 2 env = I M) (e3 : lk 3 env = I N) (e4 : lk 4 env = .fn g [] []) (e18 : lk 18 env = I H) (e19 : lk 19 env = I Z0) (e20 : lk 20 env = I P1)
    (ee : IntKind.i64.wrap ((Z0 : Int) - (P1 : Int)) = (E1 : Int))
    (x1 : decide (P1 < M) = !v2) (x2 : decide (M < E1) = !w1) (x3 : decide (P < P1) = !v1) (x4 : decide (P1 < H) = !w1) (x5 : decide (H < E1) = !v2) (x6 : decide (E1 < N) = !w2)
    (hr : v2 = false → w1 = false → Meets Try.prog E0 n_slices_rotateCmpFunc_float64 [.own 0 1 0 L r, I P1, I M, I E1, .fn g [] []] [(0, .row 1 true (D1.map row_float64))] (.tp []) [(0, .row 1 true (D2.map row_float64))])
    (i1 : v1 = false → w1 = false → Meets Try.prog E0 n_slices_symMergeCmpFunc_float64 [.own 0 1 0 L r, I P, I P1, I H, .fn g [] []] [(0, .row 1 true (D2.map row_float64))] (.tp []) [(0, .row 1 true (D3.map row_float64))])
    (i2 : v2 = false → w2 = false → Meets Try.prog E0 n_slices_symMergeCmpFunc_float64 [.own 0 1 0 L r, I H, I E1, I N, .fn g [] []] [(0, .row 1 true (D3.map row_float64))] (.tp []) [(0, .row 1 true (D4.map row_float64))])
    (r1 : (v2 || w1) = true → D1 = D2) (r2 : (v1 || w1) = true → D2 = D3) (r3 : (v2 || w2) = true → D3 = D4)
    (hend : ∀ env tl, B Try.prog E0 io Q k .normal env ((0, .row 1 true (D4.map row_float64)) :: tl)) :
    W Try.prog E0 io Q s_slices_symMergeCmpFunc_float64_t7 k env [(0, .row 1 true (D1.map row_float64))] := by
  cases v2 <;> cases w1 <;> simp only [Bool.not_true, Bool.not_false] at x1 x2 x4 x5
  case' false.false =>
    simp only [go_sem, s_slices_symMergeCmpFunc_float64_t7, e0, e1, e2, e3, e4, e18, e19, e20, ee, x1, x2, ↓reduceIte, Nat.reduceEqDiff, Nat.reduceAdd, Nat.reduceLeDiff, reduceCtorEq, Nat.reduceLT, Int.reduceLT, Int.reduceLE, Int.reduceEq, Int.reduceToNat, Nat.reduceMul]
    refine Cl_obj (ins := _) (hin := by simp [keysOf, stoOf]) (hk := by simp [keysOf]) (nd := by simp [keysOf]) (h := hr rfl rfl) ?_
    simp only [go_sem, ↓reduceIte, Nat.reduceEqDiff, Nat.reduceAdd, Nat.reduceLeDiff, reduceCtorEq, Nat.reduceLT, Int.reduceLT, Int.reduceLE, Int.reduceEq, Int.reduceToNat, Nat.reduceMul]
  case' false.true =>
    have := r1 rfl; subst this
    simp only [go_sem, s_slices_symMergeCmpFunc_float64_t7, e0, e1, e2, e3, e4, e18, e19, e20, ee, x1, x2, ↓reduceIte, Nat.reduceEqDiff, Nat.reduceAdd, Nat.reduceLeDiff, reduceCtorEq, Nat.reduceLT, Int.reduceLT, Int.reduceLE, Int.reduceEq, Int.reduceToNat, Nat.reduceMul]
  case' true.false =>
    have := r1 rfl; subst this
    simp only [go_sem, s_slices_symMergeCmpFunc_float64_t7, e0, e1, e2, e3, e4, e18, e19, e20, ee, x1, x2, ↓reduceIte, Nat.reduceEqDiff, Nat.reduceAdd, Nat.reduceLeDiff, reduceCtorEq, Nat.reduceLT, Int.reduceLT, Int.reduceLE, Int.reduceEq, Int.reduceToNat, Nat.reduceMul]
  case' true.true =>
    have := r1 rfl; subst this
    simp only [go_sem, s_slices_symMergeCmpFunc_float64_t7, e0, e1, e2, e3, e4, e18, e19, e20, ee, x1, x2, ↓reduceIte, Nat.reduceEqDiff, Nat.reduceAdd, Nat.reduceLeDiff, reduceCtorEq, Nat.reduceLT, Int.reduceLT, Int.reduceLE, Int.reduceEq, Int.reduceToNat, Nat.reduceMul]
  all_goals
    cases v1 <;> simp only [Bool.not_true, Bool.not_false] at x3
    all_goals
      (try (have r2' := r2 rfl; subst r2'))
      simp only [go_sem, x3, x4, ↓reduceIte, Nat.reduceEqDiff, Nat.reduceAdd, Nat.reduceLeDiff, reduceCtorEq, Nat.reduceLT, Int.reduceLT, Int.reduceLE, Int.reduceEq, Int.reduceToNat, Nat.reduceMul]
      try (refine Cl_obj (ins := _) (hin := by simp [keysOf, stoOf]) (hk := by simp [keysOf]) (nd := by simp [keysOf]) (h := i1 rfl rfl) ?_; simp only [go_sem, ↓reduceIte, Nat.reduceEqDiff, Nat.reduceAdd, Nat.reduceLeDiff, reduceCtorEq, Nat.reduceLT, Int.reduceLT, Int.reduceLE, Int.reduceEq, Int.reduceToNat, Nat.reduceMul])
    all_goals
      cases w2 <;> simp only [Bool.not_true, Bool.not_false] at x6
      all_goals
        (try (have r3' := r3 rfl; subst r3'))
        simp only [go_sem, x5, x6, ↓reduceIte, Nat.reduceEqDiff, Nat.reduceAdd, Nat.reduceLeDiff, reduceCtorEq, Nat.reduceLT, Int.reduceLT, Int.reduceLE, Int.reduceEq, Int.reduceToNat, Nat.reduceMul]
        try (refine Cl_obj (ins := _) (hin := by simp [keysOf, stoOf]) (hk := by simp [keysOf]) (nd := by simp [keysOf]) (h := i2 rfl rfl) ?_; simp only [go_sem, ↓reduceIte, Nat.reduceEqDiff, Nat.reduceAdd, Nat.reduceLeDiff, reduceCtorEq, Nat.reduceLT, Int.reduceLT, Int.reduceLE, Int.reduceEq, Int.reduceToNat, Nat.reduceMul])
      all_goals exact hend _ _

set_option maxHeartbeats 4000000 in
theorem f_sym3_float64 (g L : Nat) (r : Bool)  (c : Nat → Nat → Int) (D : Nat → Prop) (hc : ∀ x y, D x → D y → Meets Try.prog E0 g ([(Fl x), (Fl y)] ++ []) [] (I (c x y)) []) (hO : Below3 (lt_float64 c))
    (p a b q : List Nat) (ha1 : a.length ≠ 1) (ha0 : a ≠ []) (hb1 : b.length ≠ 1) (hb0 : b ≠ []) (ha : ∀ x ∈ a, D x) (hb : ∀ x ∈ b, D x) (sa : Srt (lt_float64 c) a) (sb : Srt (lt_float64 c) b) (hL : L = (p ++ a ++ b ++ q).length) (hLb : L ≤ 281474976710656)
    (ih : ∀ p' a' b' q' : List Nat, a'.length + b'.length < a.length + b.length → a' ≠ [] → b' ≠ [] → (∀ x ∈ a', D x) → (∀ x ∈ b', D x) → Srt (lt_float64 c) a' → Srt (lt_float64 c) b' → L = (p' ++ a' ++ b' ++ q').length →
      Meets Try.prog E0 n_slices_symMergeCmpFunc_float64 [.own 0 1 0 L r, I p'.length, I (p'.length + a'.length : Nat), I (p'.length + a'.length + b'.length : Nat), .fn g [] []] [(0, .row 1 true ((p' ++ a' ++ b' ++ q').map row_float64))] (.tp []) [(0, .row 1 true ((p' ++ mrg (lt_float64 c) a' b' ++ q').map row_float64))]) :
    Meets Try.prog E0 n_slices_symMergeCmpFunc_float64 [.own 0 1 0 L r, I p.length, I (p.length + a.length : Nat), I (p.length + a.length + b.length : Nat), .fn g [] []] [(0, .row 1 true ((p ++ a ++ b ++ q).map row_float64))] (.tp []) [(0, .row 1 true ((p ++ mrg (lt_float64 c) a b ++ q).map row_float64))] := by
  have hLs : L = p.length + a.length + b.length + q.length := by rw [hL]; simp only [List.length_append]
  obtain ⟨P, hP⟩ : ∃ P, p.length = P := ⟨_, rfl⟩
  obtain ⟨M, hM⟩ : ∃ M, P + a.length = M := ⟨_, rfl⟩
  obtain ⟨N, hN⟩ : ∃ N, M + b.length = N := ⟨_, rfl⟩
  rw [hP] at hLs ⊢
  rw [hM, hN]
  have ha0' : 0 < a.length := List.length_pos_iff.2 ha0
  have hb0' : 0 < b.length := List.length_pos_iff.2 hb0
  obtain ⟨h, hh⟩ : ∃ h, (a.length + b.length) / 2 = h := ⟨_, rfl⟩
  refine m_slices_symMergeCmpFunc_float64 (by simp) (shut_of (by simp [idsL, AV.ids, keysOf]) (by simp [Ob.live, Ob.ids, keysOf, idsL, AV.ids])) (shut_of (by simp [idsL, AV.ids, keysOf]) (by simp [Ob.live, Ob.ids, keysOf, idsL, AV.ids])) (by simp [keysOf]) (by simp [keysOf]) ?_
  have e1 : IntKind.i64.wrap ((M : Int) - (P : Int)) = (a.length : Int) := wsub hM.symm (by omega)
  have d1 : decide ((a.length : Int) = 1) = false := decide_eq_false (by omega)
  have e2 : IntKind.i64.wrap ((N : Int) - (M : Int)) = (b.length : Int) := wsub hN.symm (by omega)
  have d2 : decide ((b.length : Int) = 1) = false := decide_eq_false (by omega)
  obtain ⟨q1, q2, q3⟩ := half_float64 (x := P) (y := N) (by omega)
  have q4 : (P + N) / 2 = P + h := by omega
  rw [q4] at q3
  have e3 : IntKind.i64.wrap (((P + h : Nat) : Int) + (M : Int)) = ((P + h + M : Nat) : Int) := wadd rfl (by omega)
  obtain ⟨Z, hZ⟩ : ∃ Z, P + h + M = Z + 1 := ⟨P + h + M - 1, by omega⟩
  have e4 : IntKind.i64.wrap (((P + h + M : Nat) : Int) - 1) = (Z : Int) := wsub1 hZ (by omega)
  obtain ⟨lo, hi, hlohi, hl1, hl2, hl3, hl4, hl5, hcase⟩ : ∃ lo hi : Nat, lo ≤ hi ∧ hi ≤ a.length ∧ hi ≤ h ∧ h ≤ lo + b.length ∧ Hid (lo = 0 ∨ h = lo + b.length) ∧ Hid (hi = a.length ∨ hi = h) ∧
      ((decide (P + h < M) = true ∧ IntKind.i64.wrap (((P + h + M : Nat) : Int) - (N : Int)) = ((P + lo : Nat) : Int) ∧ P + h = P + hi) ∨ (decide (P + h < M) = false ∧ P = P + lo ∧ M = P + hi)) := by
    by_cases hc : h < a.length
    · refine ⟨h - b.length, h, by omega, by omega, by omega, by omega, .inr (by omega), .inr rfl, .inl ⟨decide_eq_true (by omega), ?_, rfl⟩⟩
      exact wsub (by omega) (by omega)
    · exact ⟨0, a.length, by omega, by omega, by omega, by omega, .inl rfl, .inl rfl, .inr ⟨decide_eq_false (by omega), by omega, by omega⟩⟩
  have hML : M ≤ L := by clear d1 d2 e1 e2 q1 q2 q3 q4 e3 e4 hcase ha1 hb1; omega
  have hNL : N ≤ L := by clear d1 d2 e1 e2 q1 q2 q3 q4 e3 e4 hcase ha1 hb1; omega
  have hhn : h < a.length + b.length := by clear d1 d2 e1 e2 q1 q2 q3 q4 e3 e4 hcase ha1 hb1; omega
  have hh0 : 0 < h := by clear d1 d2 e1 e2 q1 q2 q3 q4 e3 e4 hcase; omega
  have hZb : Z + 1 ≤ 9007199254740992 := by clear d1 d2 e1 e2 q1 q2 q3 q4 e3 e4 hcase ha1 hb1; omega
  clear ha1 hb1 ha0' hb0' hLs
  rcases hcase with ⟨c1, c2, c3⟩ | ⟨c1, c2, c3⟩
  case' inl =>
    simp only [go_sem, s_slices_symMergeCmpFunc_float64, s_slices_symMergeCmpFunc_float64_t9, s_slices_symMergeCmpFunc_float64_t8, e1, d1, e2, d2, q1, q2, q3, e3, e4, c1, c2, ↓reduceIte, Nat.reduceEqDiff, Nat.reduceAdd, Nat.reduceLeDiff, reduceCtorEq, Nat.reduceLT, Int.reduceLT, Int.reduceLE, Int.reduceEq, Int.reduceToNat, Nat.reduceMul]
  case' inr =>
    simp only [go_sem, s_slices_symMergeCmpFunc_float64, s_slices_symMergeCmpFunc_float64_t9, s_slices_symMergeCmpFunc_float64_t8, e1, d1, e2, d2, q1, q2, q3, e3, e4, c1, ↓reduceIte, Nat.reduceEqDiff, Nat.reduceAdd, Nat.reduceLeDiff, reduceCtorEq, Nat.reduceLT, Int.reduceLT, Int.reduceLE, Int.reduceEq, Int.reduceToNat, Nat.reduceMul]
  all_goals
    refine W_loop (fun s : Nat × Nat => s.2 - s.1) (fun s => lo ≤ s.1 ∧ s.1 ≤ s.2 ∧ s.2 ≤ hi ∧ Hid (s.1 = lo ∨ ∃ y z, a[s.1 - 1]? = some z ∧ b[h - s.1]? = some y ∧ lt_float64 c y z = false) ∧ Hid (s.2 = hi ∨ ∃ y z, a[s.2]? = some z ∧ b[h - 1 - s.2]? = some y ∧ lt_float64 c y z = true))
      (fun s => [(0, .own 0 1 0 L r), (1, I P), (2, I M), (3, I N), (4, .fn g [] []), (18, I (P + h : Nat)), (19, I (P + h + M : Nat)), (20, I (P + s.1 : Nat)), (21, I (P + s.2 : Nat)), (22, I Z)])
      (fun s => [(0, .row 1 true ((p ++ a ++ b ++ q).map row_float64))]) (lo, hi) ⟨Nat.le_refl _, hlohi, Nat.le_refl _, .inl rfl, .inl rfl⟩ ?_ ?_
  case inl.refine_1 =>
    simp only [← c3]
    exact (subL [] [] (by simp [envS, go_sem, wkV, wkL, AV.ids, idsL, keysOf, ren, stoOf, slTrees, AV.asOwn, rowPart, AV.isNil, shA, rowsT, cellsT, cellT, wkLL] <;> assumption) (by simp [stoS, go_sem, wkV, wkL, wkO, AV.ids, Ob.ids, idsL, keysOf, ren, AV.one, stoOf, slTrees, AV.asOwn, rowPart, AV.isNil, shA, rowsT, cellsT, cellT, wkLL] <;> assumption) (by simp [keysOf, ren]) (by simp [stoOf, keysOf, ren]) (by simp [keysOf, ren]) (by simp [keysOf, ren]))
  case inr.refine_1 =>
    simp only [← c2, ← c3]
    exact (subL [] [] (by simp [envS, go_sem, wkV, wkL, AV.ids, idsL, keysOf, ren, stoOf, slTrees, AV.asOwn, rowPart, AV.isNil, shA, rowsT, cellsT, cellT, wkLL] <;> assumption) (by simp [stoS, go_sem, wkV, wkL, wkO, AV.ids, Ob.ids, idsL, keysOf, ren, AV.one, stoOf, slTrees, AV.asOwn, rowPart, AV.isNil, shA, rowsT, cellsT, cellT, wkLL] <;> assumption) (by simp [keysOf, ren]) (by simp [stoOf, keysOf, ren]) (by simp [keysOf, ren]) (by simp [keysOf, ren]))
  all_goals
    clear c1 c2 c3
    rintro ⟨s, t⟩ ⟨hs0, hst, ht0, hs, ht⟩
    simp only at hs0 hst ht0 hs ht ⊢
    by_cases hlt : s < t
    · have d3 : decide (P + s < P + t) = true := decide_eq_true (Nat.add_lt_add_left hlt P)
      obtain ⟨h1, h2, h3⟩ := half_float64 (x := P + s) (y := P + t) (sy5 hlt (Nat.le_trans ht0 hl1) hM (Nat.le_trans hML hLb))
      rw [sy2] at h3
      obtain ⟨hk1, hk2⟩ := sy3 hlt
      generalize (s + t) / 2 = k at *
      have hka : k < a.length := Nat.lt_of_lt_of_le hk2 (Nat.le_trans ht0 hl1)
      have hkh : k < h := Nat.lt_of_lt_of_le hk2 (Nat.le_trans ht0 hl2)
      have hlk : lo ≤ k := Nat.le_trans hs0 hk1
      have hkb := sy1 hlk hkh hl3
      obtain ⟨z, hz, hzm⟩ := get_some hka
      obtain ⟨y, hy, hym⟩ := get_some hkb
      have hcc := hc y z (hb y hym) (ha z hzm)
      have g1 : ((p ++ a ++ b ++ q).map row_float64)[M + (h - 1 - k)]? = some [.v (.float .f64 y)] := by rw [List.getElem?_map, get_b (p := p) (a := a) (b := b) (q := q) (n := M + (h - 1 - k)) hy (by rw [hP, hM])]; rfl
      have g2 : ((p ++ a ++ b ++ q).map row_float64)[P + k]? = some [.v (.float .f64 z)] := by rw [List.getElem?_map, get_a (p := p) (a := a) (b := b) (q := q) (n := P + k) hz (by rw [hP])]; rfl
      have ea : IntKind.i64.wrap ((Z : Int) - ((P + k : Nat) : Int)) = ((M + (h - 1 - k) : Nat) : Int) := wsub (sy4 hZ hkh) (Nat.le_of_succ_le hZb)
      have ia : ((M + (h - 1 - k) : Nat) : Int) < (L : Int) := sy6 hkb hN hNL
      have ib : ((P + k : Nat) : Int) < (L : Int) := sy6 hka hM hML
      have ek : IntKind.i64.wrap (((P + k : Nat) : Int) + 1) = ((P + (k + 1) : Nat) : Int) := wadd1 rfl (by clear hZ hZb hN hNL hh hhn hl1 hl2 hl3 hlk hkb hk1 hk2 hs0 hst ht0 hlt; omega)
      generalize hdm : (p ++ a ++ b ++ q).map row_float64 = dm at *
      cases hl2 : decide (c y z < 0)
      · have hnew : Hid (k + 1 = lo ∨ ∃ y z, a[k + 1 - 1]? = some z ∧ b[h - (k + 1)]? = some y ∧ lt_float64 c y z = false) :=
          .inr ⟨y, z, hz, by rw [sy7 hkh]; exact hy, hl2⟩
        simp only [go_sem, s_slices_symMergeCmpFunc_float64_b6, d3, h1, h2, h3, ea, ia, ib, g1, g2, ↓reduceIte, Nat.reduceEqDiff, Nat.reduceAdd, Nat.reduceLeDiff, reduceCtorEq, Nat.reduceLT, Int.reduceLT, Int.reduceLE, Int.reduceEq, Int.reduceToNat, Nat.reduceMul]
        refine Cl_plain (hcc) ?_
        simp only [go_sem, hl2, ek, ↓reduceIte, Nat.reduceEqDiff, Nat.reduceAdd, Nat.reduceLeDiff, reduceCtorEq, Nat.reduceLT, Int.reduceLT, Int.reduceLE, Int.reduceEq, Int.reduceToNat, Nat.reduceMul]
        exact rd_of (k + 1, t) (Nat.sub_lt_sub_left hlt (Nat.lt_succ_of_le hk1)) ⟨Nat.le_succ_of_le hlk, hk2, ht0, hnew, ht⟩ (subL [] [] (by simp [envS, go_sem, wkV, wkL, AV.ids, idsL, keysOf, ren, stoOf, slTrees, AV.asOwn, rowPart, AV.isNil, shA, rowsT, cellsT, cellT, wkLL] <;> assumption) (by simp [stoS, go_sem, wkV, wkL, wkO, AV.ids, Ob.ids, idsL, keysOf, ren, AV.one, stoOf, slTrees, AV.asOwn, rowPart, AV.isNil, shA, rowsT, cellsT, cellT, wkLL] <;> assumption) (by simp [keysOf, ren]) (by simp [stoOf, keysOf, ren]) (by simp [keysOf, ren]) (by simp [keysOf, ren]))
      · have hnew : Hid (k = hi ∨ ∃ y z, a[k]? = some z ∧ b[h - 1 - k]? = some y ∧ lt_float64 c y z = true) := .inr ⟨y, z, hz, hy, hl2⟩
        simp only [go_sem, s_slices_symMergeCmpFunc_float64_b6, d3, h1, h2, h3, ea, ia, ib, g1, g2, ↓reduceIte, Nat.reduceEqDiff, Nat.reduceAdd, Nat.reduceLeDiff, reduceCtorEq, Nat.reduceLT, Int.reduceLT, Int.reduceLE, Int.reduceEq, Int.reduceToNat, Nat.reduceMul]
        refine Cl_plain (hcc) ?_
        simp only [go_sem, hl2, ↓reduceIte, Nat.reduceEqDiff, Nat.reduceAdd, Nat.reduceLeDiff, reduceCtorEq, Nat.reduceLT, Int.reduceLT, Int.reduceLE, Int.reduceEq, Int.reduceToNat, Nat.reduceMul]
        exact rd_of (s, k) (Nat.sub_lt_sub_right hk1 hk2) ⟨hs0, hk1, Nat.le_trans (Nat.le_of_lt hk2) ht0, hs, hnew⟩ (subL [] [] (by simp [envS, go_sem, wkV, wkL, AV.ids, idsL, keysOf, ren, stoOf, slTrees, AV.asOwn, rowPart, AV.isNil, shA, rowsT, cellsT, cellT, wkLL] <;> assumption) (by simp [stoS, go_sem, wkV, wkL, wkO, AV.ids, Ob.ids, idsL, keysOf, ren, AV.one, stoOf, slTrees, AV.asOwn, rowPart, AV.isNil, shA, rowsT, cellsT, cellT, wkLL] <;> assumption) (by simp [keysOf, ren]) (by simp [stoOf, keysOf, ren]) (by simp [keysOf, ren]) (by simp [keysOf, ren]))
    · obtain rfl : s = t := Nat.le_antisymm hst (Nat.not_lt.1 hlt)
      have d3 : decide (P + s < P + s) = false := decide_eq_false (Nat.lt_irrefl _)
      have hsh : s ≤ h := Nat.le_trans ht0 hl2
      obtain ⟨a1, a2, rfl, rfl⟩ := split_at (Nat.le_trans ht0 hl1)
      obtain ⟨b1, b2, rfl, hu⟩ := split_at (sy8 hs0 hl3)
      have hal : (a1 ++ a2).length = a1.length + a2.length := List.length_append
      have hbl : (b1 ++ b2).length = b1.length + b2.length := List.length_append
      have hab : a1.length + b1.length = h := by rw [hu]; exact Nat.add_sub_cancel' hsh
      have hmrg : mrg (lt_float64 c) (a1 ++ a2) (b1 ++ b2) = mrg (lt_float64 c) a1 b1 ++ mrg (lt_float64 c) a2 b2 := mrg_sym hO sa sb (m := h) hab (hl4.imp id fun e => e.trans (by rw [hbl])) (hl5.imp (fun e => e.trans hal) id) hs ht
      rw [hmrg]
      have ee : IntKind.i64.wrap (((P + h + M : Nat) : Int) - ((P + a1.length : Nat) : Int)) = ((M + b1.length : Nat) : Int) := wsub (sy9 hu hsh) (by rw [hZ]; exact hZb)
      rw [hal] at hM hhn
      rw [hbl] at hN hhn
      have l1 : (mrg (lt_float64 c) a1 b1).length = h := (mrg_len _ _ _).trans hab
      have sa' := List.pairwise_append.1 sa
      have sb' := List.pairwise_append.1 sb
      clear hs ht hmrg hl4 hl5 e1 d1 e2 d2 q1 q2 q3 q4 hlohi hlt hst hs0 ht0 hl1 hl2 hl3 hZ hZb e3 e4 hh sa sb hsh hu
      have y1 : M = P + a1.length + a2.length := by rw [← hM, Nat.add_assoc]
      have y2 : P + h = P + a1.length + b1.length := by rw [← hab, Nat.add_assoc]
      have y3 : M + b1.length = P + h + a2.length := by clear hNL hLb hN hhn; omega
      have y4 : N = M + b1.length + b2.length := by rw [← hN, Nat.add_assoc]
      have x1 : decide (P + a1.length < M) = !a2.isEmpty := (dlt y1).trans len_pos
      have x2 : decide (M < M + b1.length) = !b1.isEmpty := (dlt rfl).trans len_pos
      have x3 : decide (P < P + a1.length) = !a1.isEmpty := (dlt rfl).trans len_pos
      have x4 : decide (P + a1.length < P + h) = !b1.isEmpty := (dlt y2).trans len_pos
      have x5 : decide (P + h < M + b1.length) = !a2.isEmpty := (dlt y3).trans len_pos
      have x6 : decide (M + b1.length < N) = !b2.isEmpty := (dlt y4).trans len_pos
      have hr : a2 ≠ [] → b1 ≠ [] → Meets Try.prog E0 n_slices_rotateCmpFunc_float64 [.own 0 1 0 L r, I (P + a1.length : Nat), I M, I (M + b1.length : Nat), .fn g [] []] [(0, .row 1 true ((p ++ (a1 ++ a2) ++ (b1 ++ b2) ++ q).map row_float64))] (.tp []) [(0, .row 1 true ((p ++ a1 ++ b1 ++ (a2 ++ b2 ++ q)).map row_float64))] := by
        intro n1 n2
        have := f_rotate_float64 g L r  (p ++ a1) a2 b1 (b2 ++ q) n1 n2 (by rw [hL]; simp) hLb
        rw [show (p ++ a1).length = P + a1.length by simp [hP], ← y1] at this
        rw [show p ++ (a1 ++ a2) ++ (b1 ++ b2) ++ q = p ++ a1 ++ a2 ++ b1 ++ (b2 ++ q) by simp, show p ++ a1 ++ b1 ++ (a2 ++ b2 ++ q) = p ++ a1 ++ b1 ++ a2 ++ (b2 ++ q) by simp]
        exact this
      have i1 : a1 ≠ [] → b1 ≠ [] → Meets Try.prog E0 n_slices_symMergeCmpFunc_float64 [.own 0 1 0 L r, I P, I (P + a1.length : Nat), I (P + h : Nat), .fn g [] []] [(0, .row 1 true ((p ++ a1 ++ b1 ++ (a2 ++ b2 ++ q)).map row_float64))] (.tp []) [(0, .row 1 true ((p ++ mrg (lt_float64 c) a1 b1 ++ (a2 ++ b2 ++ q)).map row_float64))] := by
        intro n1 n2
        have := ih p a1 b1 (a2 ++ b2 ++ q) (by rw [hab, hal, hbl]; exact hhn) n1 n2 (fun x hx => ha x (by simp [hx])) (fun x hx => hb x (by simp [hx])) sa'.1 sb'.1 (hL.trans (len_swap ..))
        rw [hP, ← y2] at this
        exact this
      have i2 : a2 ≠ [] → b2 ≠ [] → Meets Try.prog E0 n_slices_symMergeCmpFunc_float64 [.own 0 1 0 L r, I (P + h : Nat), I (M + b1.length : Nat), I N, .fn g [] []] [(0, .row 1 true ((p ++ mrg (lt_float64 c) a1 b1 ++ (a2 ++ b2 ++ q)).map row_float64))] (.tp []) [(0, .row 1 true ((p ++ (mrg (lt_float64 c) a1 b1 ++ mrg (lt_float64 c) a2 b2) ++ q).map row_float64))] := by
        intro n1 n2
        have n3 := List.length_pos_iff.2 n1
        have n4 := List.length_pos_iff.2 n2
        have := ih (p ++ mrg (lt_float64 c) a1 b1) a2 b2 q (by rw [hal, hbl]; clear hNL hLb hN hM y1 y2 y3 y4 hhn; omega) n1 n2 (fun x hx => ha x (by simp [hx])) (fun x hx => hb x (by simp [hx])) sa'.2.1 sb'.2.1 (hL.trans (len_swap2 (lt_float64 c) ..))
        rw [show (p ++ mrg (lt_float64 c) a1 b1).length = P + h by rw [List.length_append, hP, l1], ← y3, ← y4] at this
        rw [show p ++ mrg (lt_float64 c) a1 b1 ++ (a2 ++ b2 ++ q) = p ++ mrg (lt_float64 c) a1 b1 ++ a2 ++ b2 ++ q by simp, show p ++ (mrg (lt_float64 c) a1 b1 ++ mrg (lt_float64 c) a2 b2) ++ q = p ++ mrg (lt_float64 c) a1 b1 ++ mrg (lt_float64 c) a2 b2 ++ q by simp]
        exact this
      have r1 : a2 = [] ∨ b1 = [] → p ++ (a1 ++ a2) ++ (b1 ++ b2) ++ q = p ++ a1 ++ b1 ++ (a2 ++ b2 ++ q) := by rintro (e | e) <;> simp [e]
      have r2 : a1 = [] ∨ b1 = [] → p ++ a1 ++ b1 ++ (a2 ++ b2 ++ q) = p ++ mrg (lt_float64 c) a1 b1 ++ (a2 ++ b2 ++ q) := fun e => by rw [mrg_none _ e]; simp
      have r3 : a2 = [] ∨ b2 = [] → p ++ mrg (lt_float64 c) a1 b1 ++ (a2 ++ b2 ++ q) = p ++ (mrg (lt_float64 c) a1 b1 ++ mrg (lt_float64 c) a2 b2) ++ q := fun e => by rw [mrg_none (a := a2) _ e]; simp
      have E : ∀ {l : List Nat}, l.isEmpty = true → l = [] := List.isEmpty_iff.1
      have NE : ∀ {l : List Nat}, l.isEmpty = false → l ≠ [] := fun h e => by rw [e] at h; cases h
      clear ih sa' sb' hL hLb ha hb hc
      simp only [go_sem, s_slices_symMergeCmpFunc_float64_b6, d3, ↓reduceIte, Nat.reduceEqDiff, Nat.reduceAdd, Nat.reduceLeDiff, reduceCtorEq, Nat.reduceLT, Int.reduceLT, Int.reduceLE, Int.reduceEq, Int.reduceToNat, Nat.reduceMul]
      refine sym_tail_float64 _ _ _ _ g L r  P M N (P + a1.length) (M + b1.length) (P + h) (P + h + M) (p ++ (a1 ++ a2) ++ (b1 ++ b2) ++ q) _ _ _ a1.isEmpty a2.isEmpty b1.isEmpty b2.isEmpty rfl rfl rfl rfl rfl rfl rfl rfl ee x1 x2 x3 x4 x5 x6
        (fun h1 h2 => hr (NE h1) (NE h2)) (fun h1 h2 => i1 (NE h1) (NE h2)) (fun h1 h2 => i2 (NE h1) (NE h2)) (fun h => r1 ((Bool.or_eq_true_iff.1 h).imp E E)) (fun h => r2 ((Bool.or_eq_true_iff.1 h).imp E E)) (fun h => r3 ((Bool.or_eq_true_iff.1 h).imp E E)) (fun env tl => ?_)
      simp only [go_sem, ↓reduceIte, Nat.reduceEqDiff, Nat.reduceAdd, Nat.reduceLeDiff, reduceCtorEq, Nat.reduceLT, Int.reduceLT, Int.reduceLE, Int.reduceEq, Int.reduceToNat, Nat.reduceMul]
      refine wends2 [] [] (by first | exact Or.inl rfl | exact Or.inr rfl) ?_ (by simp [AV.ids, idsL, keysOf]) (by simp [stoS, wkO, ls_cons, ls_nil, stoOf, ren, keysOf, Ob.ids, wkV, wkL, AV.one, idsL, AV.ids] <;> assumption) (by simp [keysOf, ren]) (by simp [stoOf, keysOf, ren]) (by simp [keysOf, ren]) (by simp [keysOf, ren])
      simp only [go_sem, r_slices_symMergeCmpFunc_float64, exists_eq_left', Option.some.injEq, ↓reduceIte, Nat.reduceEqDiff, Nat.reduceAdd, Nat.reduceLeDiff, reduceCtorEq, Nat.reduceLT, Int.reduceLT, Int.reduceLE, Int.reduceEq, Int.reduceToNat, Nat.reduceMul]
      simp [wkV, wkL, slTrees, AV.asOwn, rowPart, stoOf, AV.isNil, shA, rowsT, cellsT, cellT, ren]

end Go.Proofs.Ytgablplpdocniaa
