/- The contract of the law on what was accepted last. No statement of the seat is proved here. -/
import Derived.Test.YtmjlldlaigoflaaLdLastM
set_option linter.unusedSimpArgs false
set_option linter.unusedVariables false
namespace Go.Proofs.Ytmjlldlaigoflaa
open Go Go.Sx

abbrev Arr := Nat × Nat × Int
def arT (a : Arr) : List T := [.v (.int .u8 (a.1 : Nat)), .v (.int .u8 (a.2.1 : Nat)), .v (.int .i64 a.2.2)]
abbrev arL (l : List Arr) : AV := .t (.sl 3 (l.map arT))

theorem rem_pos {a b : Int} (ha : 0 ≤ a) (hb : ¬ b = 0) : binInt .rem .i64 a b = some (.int .i64 (a % b)) := by rw [i64_rem hb, smod ha]

set_option maxHeartbeats 2000000 in
theorem f_law14_LadderLast (st ct : Nat) (l : List Arr) (hst : st < 256) (hct : ct < 256) (hn : l.length ≤ reachBytes) (hl : ∀ a ∈ l, a.1 < 256 ∧ a.2.1 < 256 ∧ -9223372036854775808 ≤ a.2.2 ∧ a.2.2 < 9223372036854775808) :
    Meets Try.prog E0 n_law14_LadderLast [.t (.v (.int .u8 (st : Nat))), .t (.v (.int .u8 (ct : Nat))), arL l] [] (Bo true) [] := by
  refine m_law14_LadderLast (by simp) (shut0 rfl) (shut0 rfl) (by simp) (by simp [keysOf]) ?_
  have hrb : reachBytes = 140737488351232 := rfl
  cases d1 : decide (100 < (l.length : Int))
  case true =>
    clear hl
    repeat' (first | (with_reducible refine Cl_plain (f_law14_alive) ?_) | (simp only [go_sem, s_law14_LadderLast, ↓reduceIte, Nat.reduceEqDiff, Nat.reduceAdd, Nat.reduceLeDiff, reduceCtorEq, Nat.reduceLT, Int.reduceLT, Int.reduceLE, Int.reduceEq, Int.reduceToNat, Nat.reduceMul, *]) | (simp (disch := omega) only [s_law14_LadderLast, wrap_i64_of, i64_quo, i64_rem, sdiv, smod]) | ((with_reducible refine W_split (by with_unfolding_all exact rfl) (fun hsp => ?_) (fun hsp => ?_)) <;> (try simp only [Bool.not_true, Bool.not_false, decide_eq_true_eq, decide_eq_false_iff_not, Bool.not_eq_true', Bool.not_eq_false', not_false_eq_true] at hsp)) | ((with_reducible refine R_split (by with_unfolding_all exact rfl) (fun hsp => ?_) (fun hsp => ?_)) <;> (try simp only [Bool.not_true, Bool.not_false, decide_eq_true_eq, decide_eq_false_iff_not, Bool.not_eq_true', Bool.not_eq_false', not_false_eq_true] at hsp)) | (with_reducible refine R_fin (by repeat' (first | exact okp0 | refine okp rfl rfl rfl ?_)) ?_))
    refine wends (by first | exact Or.inl rfl | exact Or.inr rfl) ?_ (by first | rfl | simp [AV.ids, idsL])
    simp only [go_sem, r_law14_LadderLast, ↓reduceIte, Nat.reduceEqDiff, Nat.reduceAdd, Nat.reduceLeDiff, reduceCtorEq, Nat.reduceLT, Int.reduceLT, Int.reduceLE, Int.reduceEq, Int.reduceToNat, Nat.reduceMul]
  have c1 := of_decide_eq_false d1
  have x1 : IntKind.i64.wrap (st : Int) = st := wrap_i64_of (by omega) (by omega)
  have x2 : IntKind.i64.wrap (ct : Int) = ct := wrap_i64_of (by omega) (by omega)
  have x3 := smod (a := (st : Int)) (b := 10) (by omega)
  have x4 := smod (a := (ct : Int)) (b := 10) (by omega)
  have x5 : IntKind.i64.wrap (1 + (st : Int) % 10) = 1 + (st : Int) % 10 := wrap_i64_of (by omega) (by omega)
  have x6 : IntKind.i64.wrap (2 + (ct : Int) % 10) = 2 + (ct : Int) % 10 := wrap_i64_of (by omega) (by omega)
  obtain ⟨w, hw⟩ : ∃ w : Int, 1 + (st : Int) % 10 = w := ⟨_, rfl⟩
  obtain ⟨n, hnn⟩ : ∃ n : Int, 2 + (ct : Int) % 10 = n := ⟨_, rfl⟩
  have w1 : 1 ≤ w ∧ w ≤ 10 := by omega
  have n1 : 2 ≤ n ∧ n ≤ 11 := by omega
  have wn0 := Int.mul_le_mul w1.2 n1.2 (by omega) (by omega)
  have wn1 := Int.mul_le_mul w1.1 n1.1 (by omega) (by omega)
  have hsz : szB (w, n) = true := szB_iff.2 ⟨by simp only; omega, by simp only; omega, by simp only; omega, by simp only; omega⟩
  have a0 := f_ladder_New [(w, n)] 5 0
  have e0 : newLM [(w, n)] 5 0 = ((5, 0, [newR (w, n)]), 0) := by
    have : togB [(w, n)] = true := by simp [togB, hsz, chainB]
    simp [newLM, this, howB]
  rw [e0] at a0
  have hz0 : decide ((0 : Int) = 0) = true := rfl
  have hw0 : ¬ w = 0 := by omega
  have y1 : IntKind.i64.wrap (w * n) = w * n := wrap_i64_of (by omega) (by omega)
  simp only [go_sem, s_law14_LadderLast, ↓reduceIte, Nat.reduceEqDiff, Nat.reduceAdd, Nat.reduceLeDiff, reduceCtorEq, Nat.reduceLT, Int.reduceLT, Int.reduceLE, Int.reduceEq, Int.reduceToNat, Nat.reduceMul]
  refine Cl_plain f_law14_alive ?_
  simp only [go_sem, d1, x1, x2, x3, x4, x5, x6, ↓reduceIte, Nat.reduceEqDiff, Nat.reduceAdd, Nat.reduceLeDiff, reduceCtorEq, Nat.reduceLT, Int.reduceLT, Int.reduceLE, Int.reduceEq, Int.reduceToNat, Nat.reduceMul]
  rw [hw, hnn]
  refine Cl_show [121] a0 ?_ (by simp [stoOf]) ?_
  · exact .ag (.one (Wk.row (by simp [slTrees, AV.asOwn, rowPart, stoOf, slT]) (by simp)) (.one (Wk.refl _) (.one (Wk.refl _) .nil))) .nil
  simp only [go_sem, hz0, ↓reduceIte, Nat.reduceEqDiff, Nat.reduceAdd, Nat.reduceLeDiff, reduceCtorEq, Nat.reduceLT, Int.reduceLT, Int.reduceLE, Int.reduceEq, Int.reduceToNat, Nat.reduceMul]
  refine W_loop (fun x : Nat × Int × Ring × List Pt => l.length - x.1)
    (fun x => x.1 ≤ l.length ∧ Kept w n x.2.1 x.2.2.1 x.2.2.2 ∧ 1000 ≤ x.2.1 ∧ x.2.1 ≤ 1000 + 16 * (x.1 : Int) ∧ x.2.2.2.length ≤ x.1 ∧ ∀ p ∈ x.2.2.2, 0 ≤ p.1)
    (fun x => [(2, arL l), (7, I w), (8, I n), (9, .ptr 127 0), (11, I x.2.1), (12, .own 999 2 0 x.2.2.2.length (!x.2.2.2.isEmpty)), (13, I x.1)])
    (fun x => [(127, .box [I 5, I 0, rgL [x.2.2.1]]), (999, .row 2 (!x.2.2.2.isEmpty) (x.2.2.2.map slT))])
    (0, 1000, newR (w, n), []) ⟨Nat.zero_le _, kept_new hsz 1000 (by omega), by simp only; omega, by simp only; omega, by simp, by simp⟩ (subL [(999, 888)] [] (by simp [envS, go_sem, wkV, wkL, AV.ids, idsL, keysOf, ren, stoOf, slTrees, AV.asOwn, rowPart, AV.isNil, valL_len] <;> assumption) (by simp [stoS, go_sem, wkV, wkL, wkO, AV.ids, Ob.ids, idsL, keysOf, ren, AV.one, stoOf, slTrees, AV.asOwn, rowPart, AV.isNil, valL_len] <;> assumption) (by simp [keysOf, ren]) (by simp [stoOf, keysOf, ren]) (by simp [keysOf, ren]) (by simp [keysOf, ren])) ?_
  rintro ⟨i, now, r, ps⟩ ⟨hi, hk, h1, h2, hp, hp0⟩
  simp only at hi hk h1 h2 hp hp0
  simp only [go_sem, s_law14_LadderLast_b0, ↓reduceIte, Nat.reduceEqDiff, Nat.reduceAdd, Nat.reduceLeDiff, reduceCtorEq, Nat.reduceLT, Int.reduceLT, Int.reduceLE, Int.reduceEq, Int.reduceToNat, Nat.reduceMul]
  refine W_split rfl (fun h => ?_) (fun h => ?_)
  · simp at h
    obtain ⟨a, hs⟩ := get_of_lt h
    obtain ⟨q1, q2, q3, q4⟩ := hl a (List.mem_of_getElem? hs)
    have ei : IntKind.i64.wrap ((i : Int) + 1) = ((i + 1 : Nat) : Int) := by rw [wrap_i64_of (by omega) (by omega)]; omega
    have z1 : IntKind.i64.wrap (a.2.1 : Int) = a.2.1 := wrap_i64_of (by omega) (by omega)
    have z2 := smod (a := (a.2.1 : Int)) (b := 16) (by omega)
    have z3 : IntKind.i64.wrap (now + (a.2.1 : Int) % 16) = now + (a.2.1 : Int) % 16 := wrap_i64_of (by omega) (by omega)
    have z4 : IntKind.i64.wrap (a.1 : Int) = a.1 := wrap_i64_of (by omega) (by omega)
    have z5 := smod (a := (a.1 : Int)) (b := 64) (by omega)
    have z6 : IntKind.i64.wrap (now + (a.2.1 : Int) % 16 - (a.1 : Int) % 64) = now + (a.2.1 : Int) % 16 - (a.1 : Int) % 64 := wrap_i64_of (by omega) (by omega)
    simp only [go_sem, hs, arT, z1, z2, z3, ↓reduceIte, Nat.reduceEqDiff, Nat.reduceAdd, Nat.reduceLeDiff, reduceCtorEq, Nat.reduceLT, Int.reduceLT, Int.reduceLE, Int.reduceEq, Int.reduceToNat, Nat.reduceMul]
    simp only [go_sem, hs, arT, z4, z5, z6, ↓reduceIte, Nat.reduceEqDiff, Nat.reduceAdd, Nat.reduceLeDiff, reduceCtorEq, Nat.reduceLT, Int.reduceLT, Int.reduceLE, Int.reduceEq, Int.reduceToNat, Nat.reduceMul]
    ((try (with_reducible refine R_fin (by repeat' (first | exact okp0 | refine okp rfl rfl rfl ?_)) ?_)); (try simp only [go_sem, hs, arT, z4, z5, z6, ↓reduceIte, Nat.reduceEqDiff, Nat.reduceAdd, Nat.reduceLeDiff, reduceCtorEq, Nat.reduceLT, Int.reduceLT, Int.reduceLE, Int.reduceEq, Int.reduceToNat, Nat.reduceMul]))
    obtain ⟨now', hnow⟩ : ∃ x : Int, now + (a.2.1 : Int) % 16 = x := ⟨_, rfl⟩
    rw [hnow] at z6 ⊢
    obtain ⟨t, ht⟩ : ∃ x : Int, now' - (a.1 : Int) % 64 = x := ⟨_, rfl⟩
    rw [ht]
    have t1 : timedB t = true := timedB_iff.2 ⟨by omega, by omega⟩
    have t2 : timedB now' = true := timedB_iff.2 ⟨by omega, by omega⟩
    have hk' := hk.later (now' := now') (by omega)
    have bA := f_ladder_Accept 5 0 [r] t a.2.2 now' (by simp; decide) (by simpa using hk'.good.2) q3 q4
    rw [one_acc hk' t1 t2 (by omega) q4] at bA
    have m0 := Int.emod_nonneg t hw0
    have m1 := Int.emod_lt_of_pos t (show 0 < w by omega)
    have u1 := rem_pos (a := t) (b := w) (by omega) hw0
    have u2 : IntKind.i64.wrap (t - t % w) = t - t % w := wrap_i64_of (by omega) (by omega)
    have u3 : IntKind.i64.wrap (now' - w * n) = now' - w * n := wrap_i64_of (by omega) (by omega)
    cases d2 : decide (a.2.2 = -9223372036854775808)
    case true =>
      have d2' := of_decide_eq_true d2
      rw [if_pos d2'] at bA
      refine Cl_plain bA ?_
      have hz1 : decide ((1 : Int) = 1) = true := rfl
      simp only [go_sem, u1, u2, u3, y1, ↓reduceIte, Nat.reduceEqDiff, Nat.reduceAdd, Nat.reduceLeDiff, reduceCtorEq, Nat.reduceLT, Int.reduceLT, Int.reduceLE, Int.reduceEq, Int.reduceToNat, Nat.reduceMul]
      ((try (with_reducible refine R_fin (by repeat' (first | exact okp0 | refine okp rfl rfl rfl ?_)) ?_)); (try simp only [go_sem, hs, arT, d2, hz1, ei, u1, u2, u3, y1, ↓reduceIte, Nat.reduceEqDiff, Nat.reduceAdd, Nat.reduceLeDiff, reduceCtorEq, Nat.reduceLT, Int.reduceLT, Int.reduceLE, Int.reduceEq, Int.reduceToNat, Nat.reduceMul]))
      exact rd_of (i + 1, now', r, ps) (by simp only; omega) ⟨by simp only; omega, hk', by simp only; omega, by simp only; omega, by simp only; omega, hp0⟩ (subL [] [] (by simp [envS, go_sem, wkV, wkL, AV.ids, idsL, keysOf, ren, stoOf, slTrees, AV.asOwn, rowPart, AV.isNil, valL_len] <;> assumption) (by simp [stoS, go_sem, wkV, wkL, wkO, AV.ids, Ob.ids, idsL, keysOf, ren, AV.one, stoOf, slTrees, AV.asOwn, rowPart, AV.isNil, valL_len] <;> assumption) (by simp [keysOf, ren]) (by simp [stoOf, keysOf, ren]) (by simp [keysOf, ren]) (by simp [keysOf, ren]))
    have d2' := of_decide_eq_false d2
    rw [if_neg d2'] at bA
    cases d3 : decide (t - t % w ≤ now' - w * n)
    case true =>
      have d3' := of_decide_eq_true d3
      rw [if_pos d3'] at bA
      refine Cl_plain bA ?_
      have hz14 : decide ((14 : Int) = 14) = true := rfl
      simp only [go_sem, u1, u2, u3, y1, d3, ↓reduceIte, Nat.reduceEqDiff, Nat.reduceAdd, Nat.reduceLeDiff, reduceCtorEq, Nat.reduceLT, Int.reduceLT, Int.reduceLE, Int.reduceEq, Int.reduceToNat, Nat.reduceMul]
      ((try (with_reducible refine R_fin (by repeat' (first | exact okp0 | refine okp rfl rfl rfl ?_)) ?_)); (try simp only [go_sem, hs, arT, d2, hz14, ei, u1, u2, u3, y1, d3, beq_self_eq_true, ↓reduceIte, Nat.reduceEqDiff, Nat.reduceAdd, Nat.reduceLeDiff, reduceCtorEq, Nat.reduceLT, Int.reduceLT, Int.reduceLE, Int.reduceEq, Int.reduceToNat, Nat.reduceMul]))
      exact rd_of (i + 1, now', r, ps) (by simp only; omega) ⟨by simp only; omega, hk', by simp only; omega, by simp only; omega, by simp only; omega, hp0⟩ (subL [] [] (by simp [envS, go_sem, wkV, wkL, AV.ids, idsL, keysOf, ren, stoOf, slTrees, AV.asOwn, rowPart, AV.isNil, valL_len] <;> assumption) (by simp [stoS, go_sem, wkV, wkL, wkO, AV.ids, Ob.ids, idsL, keysOf, ren, AV.one, stoOf, slTrees, AV.asOwn, rowPart, AV.isNil, valL_len] <;> assumption) (by simp [keysOf, ren]) (by simp [stoOf, keysOf, ren]) (by simp [keysOf, ren]) (by simp [keysOf, ren]))
    have d3' := of_decide_eq_false d3
    rw [if_neg d3'] at bA
    refine Cl_plain bA ?_
    have hz14 : decide ((0 : Int) = 14) = false := rfl
    have hk2 := hk'.put t1 (by omega) (by omega) (show -9223372036854775808 < a.2.2 by omega) q4
    have b4 : (ps.length + 1) * 16 ≤ 2 ^ 47 := by omega
    have b5 : ps.length + 1 < 2 ^ 47 := by omega
    have em : ps.map slT ++ [[.v (.int .i64 t), .v (.int .i64 a.2.2)]] = (ps ++ [(t, a.2.2)]).map slT := by simp [slT]
    have hlen : (ps.map slT).length = ps.length := by simp
    simp only [go_sem, u1, u2, u3, y1, d3, ↓reduceIte, Nat.reduceEqDiff, Nat.reduceAdd, Nat.reduceLeDiff, reduceCtorEq, Nat.reduceLT, Int.reduceLT, Int.reduceLE, Int.reduceEq, Int.reduceToNat, Nat.reduceMul]
    ((try (with_reducible refine R_fin (by repeat' (first | exact okp0 | refine okp rfl rfl rfl ?_)) ?_)); (try simp only [go_sem, hs, arT, d2, hz14, hz0, ei, u1, u2, u3, y1, d3, beq_self_eq_true, ↓reduceIte, Nat.reduceEqDiff, Nat.reduceAdd, Nat.reduceLeDiff, reduceCtorEq, Nat.reduceLT, Int.reduceLT, Int.reduceLE, Int.reduceEq, Int.reduceToNat, Nat.reduceMul]))
    simp only [go_sem, b4, b5, em, hlen, ei, ↓reduceIte, Nat.reduceEqDiff, Nat.reduceAdd, Nat.reduceLeDiff, reduceCtorEq, Nat.reduceLT, Int.reduceLT, Int.reduceLE, Int.reduceEq, Int.reduceToNat, Nat.reduceMul]
    refine rd_of (i + 1, now', setR r t a.2.2, ps ++ [(t, a.2.2)]) (by simp only; omega) ⟨by simp only; omega, hk2, by simp only; omega, by simp only; omega, by simp; omega, ?_⟩ ?_
    · intro p hp
      rcases List.mem_append.1 hp with hp | hp
      · exact hp0 p hp
      · simp at hp; subst hp; simp only; omega
    · have e1 : (ps ++ [(t, a.2.2)]).length = ps.length + 1 := by simp
      have e2 : (ps ++ [(t, a.2.2)]).isEmpty = false := by simp
      rw [e1, e2]
      exact (subL [(999, 218)] [] (by simp [envS, go_sem, wkV, wkL, AV.ids, idsL, keysOf, ren, stoOf, slTrees, AV.asOwn, rowPart, AV.isNil, valL_len] <;> assumption) (by simp [stoS, go_sem, wkV, wkL, wkO, AV.ids, Ob.ids, idsL, keysOf, ren, AV.one, stoOf, slTrees, AV.asOwn, rowPart, AV.isNil, valL_len] <;> assumption) (by simp [keysOf, ren]) (by simp [stoOf, keysOf, ren]) (by simp [keysOf, ren]) (by simp [keysOf, ren]))
  · have e : i = l.length := by simp at h; omega
    subst e
    have u3 : IntKind.i64.wrap (now - w * n) = now - w * n := wrap_i64_of (by omega) (by omega)
    have u4 : IntKind.i64.wrap (now - w * n + 1) = now - w * n + 1 := wrap_i64_of (by omega) (by omega)
    have u5 : IntKind.i64.wrap (now + 1) = now + 1 := wrap_i64_of (by omega) (by omega)
    obtain ⟨F, N, eF, hN, hF, hT⟩ := one_fetch hk (by omega) (by omega)
    have bF := f_ladder_Fetch 5 0 [r] (now - w * n + 1) (now + 1) now (by simp; decide)
    rw [eF] at bF
    simp only [go_sem, s_law14_LadderLast_t6, u3, u4, u5, y1, ↓reduceIte, Nat.reduceEqDiff, Nat.reduceAdd, Nat.reduceLeDiff, reduceCtorEq, Nat.reduceLT, Int.reduceLT, Int.reduceLE, Int.reduceEq, Int.reduceToNat, Nat.reduceMul]
    refine Cl_plain bF ?_
    simp only [go_sem, hz0, ↓reduceIte, Nat.reduceEqDiff, Nat.reduceAdd, Nat.reduceLeDiff, reduceCtorEq, Nat.reduceLT, Int.reduceLT, Int.reduceLE, Int.reduceEq, Int.reduceToNat, Nat.reduceMul]
    refine W_loop (fun k : Nat => N - k) (fun k => k ≤ N)
      (fun k => [(7, I w), (8, I n), (12, .own 999 2 0 ps.length (!ps.isEmpty)), (18, .ptr 239 0), (20, I k)])
      (fun k => [(239, .box [.t (.v (.string (bs []))), I (if N = 0 then ceilM w (now - w * n + 1) * w else F * w), I w, numL (valL r F N)]), (999, .row 2 (!ps.isEmpty) (ps.map slT))])
      0 (Nat.zero_le _) (subL [] [] (by simp [envS, go_sem, wkV, wkL, AV.ids, idsL, keysOf, ren, stoOf, slTrees, AV.asOwn, rowPart, AV.isNil, valL_len] <;> assumption) (by simp [stoS, go_sem, wkV, wkL, wkO, AV.ids, Ob.ids, idsL, keysOf, ren, AV.one, stoOf, slTrees, AV.asOwn, rowPart, AV.isNil, valL_len] <;> assumption) (by simp [keysOf, ren]) (by simp [stoOf, keysOf, ren]) (by simp [keysOf, ren]) (by simp [keysOf, ren])) ?_
    intro k hkN
    simp only [go_sem, s_law14_LadderLast_b4, valL_len, ↓reduceIte, Nat.reduceEqDiff, Nat.reduceAdd, Nat.reduceLeDiff, reduceCtorEq, Nat.reduceLT, Int.reduceLT, Int.reduceLE, Int.reduceEq, Int.reduceToNat, Nat.reduceMul]
    refine W_split rfl (fun h => ?_) (fun h => ?_)
    · simp at h
      obtain ⟨v1, v2, v3⟩ := hT k h
      have hS : (if N = 0 then ceilM w (now - w * n + 1) * w else F * w) = F * w := if_neg (by omega)
      have f0 : 0 ≤ F * w := Int.mul_nonneg hF (by omega)
      have f1 : 0 ≤ (k : Int) * w := Int.mul_nonneg (by omega) (by omega)
      have f2 : F * w + (k : Int) * w = (F + (k : Int)) * w := by rw [Int.add_mul]
      have g1 : IntKind.i64.wrap ((k : Int) * w) = (k : Int) * w := wrap_i64_of (by omega) (by omega)
      have g2 : IntKind.i64.wrap (F * w + (k : Int) * w) = (F + (k : Int)) * w := by rw [wrap_i64_of (by omega) (by omega), f2]
      have ek : IntKind.i64.wrap ((k : Int) + 1) = ((k + 1 : Nat) : Int) := by rw [wrap_i64_of (by omega) (by omega)]; omega
      have hv := valL_get r F N k h
      rw [← hk.e1] at v3
      rw [v3, hk.e1] at hv
      rw [hS]
      obtain ⟨T, hTT⟩ : ∃ x : Int, (F + (k : Int)) * w = x := ⟨_, rfl⟩
      rw [hTT] at hv g2 v1 v2
      simp only [go_sem, g1, g2, ↓reduceIte, Nat.reduceEqDiff, Nat.reduceAdd, Nat.reduceLeDiff, reduceCtorEq, Nat.reduceLT, Int.reduceLT, Int.reduceLE, Int.reduceEq, Int.reduceToNat, Nat.reduceMul]
      refine Cl_plain f_ref02_Nothing ?_
      simp only [go_sem, NO_none, ↓reduceIte, Nat.reduceEqDiff, Nat.reduceAdd, Nat.reduceLeDiff, reduceCtorEq, Nat.reduceLT, Int.reduceLT, Int.reduceLE, Int.reduceEq, Int.reduceToNat, Nat.reduceMul]
      refine W_loop (fun i : Nat => ps.length - i) (fun i => i ≤ ps.length)
        (fun i => [(7, I w), (8, I n), (12, .own 999 2 0 ps.length (!ps.isEmpty)), (18, .ptr 239 0), (20, I k), (21, I T), (22, .ptr 259 0), (23, I i)])
        (fun i => [(239, .box [.t (.v (.string (bs []))), I (F * w), I w, numL (valL r F N)]), (259, .box [Bo (lastP w (ps.take i) T).1, I (lastP w (ps.take i) T).2]), (999, .row 2 (!ps.isEmpty) (ps.map slT))])
        0 (Nat.zero_le _) ?_ ?_
      · rw [show lastP w (ps.take 0) T = (true, 0) from rfl]
        exact (subL [] [] (by simp [envS, go_sem, wkV, wkL, AV.ids, idsL, keysOf, ren, stoOf, slTrees, AV.asOwn, rowPart, AV.isNil, valL_len] <;> assumption) (by simp [stoS, go_sem, wkV, wkL, wkO, AV.ids, Ob.ids, idsL, keysOf, ren, AV.one, stoOf, slTrees, AV.asOwn, rowPart, AV.isNil, valL_len] <;> assumption) (by simp [keysOf, ren]) (by simp [stoOf, keysOf, ren]) (by simp [keysOf, ren]) (by simp [keysOf, ren]))
      intro i hi2
      simp only [go_sem, s_law14_LadderLast_b1, ↓reduceIte, Nat.reduceEqDiff, Nat.reduceAdd, Nat.reduceLeDiff, reduceCtorEq, Nat.reduceLT, Int.reduceLT, Int.reduceLE, Int.reduceEq, Int.reduceToNat, Nat.reduceMul]
      refine W_split rfl (fun h2 => ?_) (fun h2 => ?_)
      · simp at h2
        obtain ⟨p, hps⟩ := get_of_lt h2
        have pb := hk.pts p (List.mem_of_getElem? hps)
        have pa := hp0 p (List.mem_of_getElem? hps)
        have ib : (i : Int) < (ps.length : Int) := by omega
        have ei : IntKind.i64.wrap ((i : Int) + 1) = ((i + 1 : Nat) : Int) := by rw [wrap_i64_of (by omega) (by omega)]; omega
        have m0 := Int.emod_nonneg p.1 hw0
        have m1 := Int.emod_lt_of_pos p.1 (show 0 < w by omega)
        have s1 := rem_pos (a := p.1) (b := w) pa hw0
        have s2 : IntKind.i64.wrap (p.1 - p.1 % w) = p.1 - p.1 % w := wrap_i64_of (by omega) (by omega)
        have ht : ps.take (i + 1) = ps.take i ++ [p] := by rw [List.take_add_one, hps]; rfl
        have hne : ps.isEmpty = false := by cases ps with | nil => simp at h2 | cons _ _ => rfl
        rw [hne]
        cases d5 : decide (p.1 - p.1 % w = T)
        · have hl : lastP w (ps.take (i + 1)) T = lastP w (ps.take i) T := by rw [ht, lastP_add, if_neg (of_decide_eq_false d5)]
          simp only [go_sem, hps, slT, ib, s1, s2, d5, ↓reduceIte, Nat.reduceEqDiff, Nat.reduceAdd, Nat.reduceLeDiff, reduceCtorEq, Nat.reduceLT, Int.reduceLT, Int.reduceLE, Int.reduceEq, Int.reduceToNat, Nat.reduceMul]
          ((try (with_reducible refine R_fin (by repeat' (first | exact okp0 | refine okp rfl rfl rfl ?_)) ?_)); (try simp only [go_sem, hps, slT, ib, s1, s2, d5, ei, ↓reduceIte, Nat.reduceEqDiff, Nat.reduceAdd, Nat.reduceLeDiff, reduceCtorEq, Nat.reduceLT, Int.reduceLT, Int.reduceLE, Int.reduceEq, Int.reduceToNat, Nat.reduceMul]))
          refine rd_of (i + 1) (by first | omega | (simp only; omega)) (by first | omega | (simp only; omega)) ?_
          rw [hl]
          exact (subL [] [] (by simp [envS, go_sem, wkV, wkL, AV.ids, idsL, keysOf, ren, stoOf, slTrees, AV.asOwn, rowPart, AV.isNil, valL_len] <;> assumption) (by simp [stoS, go_sem, wkV, wkL, wkO, AV.ids, Ob.ids, idsL, keysOf, ren, AV.one, stoOf, slTrees, AV.asOwn, rowPart, AV.isNil, valL_len] <;> assumption) (by simp [keysOf, ren]) (by simp [stoOf, keysOf, ren]) (by simp [keysOf, ren]) (by simp [keysOf, ren]))
        · have hl : lastP w (ps.take (i + 1)) T = (false, p.2) := by rw [ht, lastP_add, if_pos (of_decide_eq_true d5)]
          simp only [go_sem, hps, slT, ib, s1, s2, d5, ↓reduceIte, Nat.reduceEqDiff, Nat.reduceAdd, Nat.reduceLeDiff, reduceCtorEq, Nat.reduceLT, Int.reduceLT, Int.reduceLE, Int.reduceEq, Int.reduceToNat, Nat.reduceMul]
          ((try (with_reducible refine R_fin (by repeat' (first | exact okp0 | refine okp rfl rfl rfl ?_)) ?_)); (try simp only [go_sem, hps, slT, ib, s1, s2, d5, ei, ↓reduceIte, Nat.reduceEqDiff, Nat.reduceAdd, Nat.reduceLeDiff, reduceCtorEq, Nat.reduceLT, Int.reduceLT, Int.reduceLE, Int.reduceEq, Int.reduceToNat, Nat.reduceMul]))
          refine rd_of (i + 1) (by first | omega | (simp only; omega)) (by first | omega | (simp only; omega)) ?_
          rw [hl]
          exact (subL [] [] (by simp [envS, go_sem, wkV, wkL, AV.ids, idsL, keysOf, ren, stoOf, slTrees, AV.asOwn, rowPart, AV.isNil, valL_len] <;> assumption) (by simp [stoS, go_sem, wkV, wkL, wkO, AV.ids, Ob.ids, idsL, keysOf, ren, AV.one, stoOf, slTrees, AV.asOwn, rowPart, AV.isNil, valL_len] <;> assumption) (by simp [keysOf, ren]) (by simp [stoOf, keysOf, ren]) (by simp [keysOf, ren]) (by simp [keysOf, ren]))
      · have e : i = ps.length := by simp at h2; omega
        subst e
        rw [List.take_length]
        simp only [go_sem, s_law14_LadderLast_t2, s_law14_LadderLast_t3, hv, numT, ↓reduceIte, Nat.reduceEqDiff, Nat.reduceAdd, Nat.reduceLeDiff, reduceCtorEq, Nat.reduceLT, Int.reduceLT, Int.reduceLE, Int.reduceEq, Int.reduceToNat, Nat.reduceMul]
        ((try (with_reducible refine R_fin (by repeat' (first | exact okp0 | refine okp rfl rfl rfl ?_)) ?_)); (try simp only [go_sem, hv, numT, beq_self_eq_true, ek, s_law14_LadderLast_t3, ↓reduceIte, Nat.reduceEqDiff, Nat.reduceAdd, Nat.reduceLeDiff, reduceCtorEq, Nat.reduceLT, Int.reduceLT, Int.reduceLE, Int.reduceEq, Int.reduceToNat, Nat.reduceMul]))
        refine rd_of (k + 1) (by first | omega | (simp only; omega)) (by first | omega | (simp only; omega)) ?_
        exact (subL [] [] (by simp [envS, go_sem, wkV, wkL, AV.ids, idsL, keysOf, ren, stoOf, slTrees, AV.asOwn, rowPart, AV.isNil, valL_len] <;> assumption) (by simp [stoS, go_sem, wkV, wkL, wkO, AV.ids, Ob.ids, idsL, keysOf, ren, AV.one, stoOf, slTrees, AV.asOwn, rowPart, AV.isNil, valL_len] <;> assumption) (by simp [keysOf, ren]) (by simp [stoOf, keysOf, ren]) (by simp [keysOf, ren]) (by simp [keysOf, ren]))
    · have e : k = N := by simp at h; omega
      subst e
      have dn : decide ((k : Int) ≤ n) = true := decide_eq_true hN
      have dw : decide (w = w) = true := decide_eq_true rfl
      simp only [go_sem, s_law14_LadderLast_t5, valL_len, dn, dw, ↓reduceIte, Nat.reduceEqDiff, Nat.reduceAdd, Nat.reduceLeDiff, reduceCtorEq, Nat.reduceLT, Int.reduceLT, Int.reduceLE, Int.reduceEq, Int.reduceToNat, Nat.reduceMul]
      refine wends (by first | exact Or.inl rfl | exact Or.inr rfl) ?_ (by first | rfl | simp [AV.ids, idsL])
      simp only [go_sem, r_law14_LadderLast, ↓reduceIte, Nat.reduceEqDiff, Nat.reduceAdd, Nat.reduceLeDiff, reduceCtorEq, Nat.reduceLT, Int.reduceLT, Int.reduceLE, Int.reduceEq, Int.reduceToNat, Nat.reduceMul]

end Go.Proofs.Ytmjlldlaigoflaa
