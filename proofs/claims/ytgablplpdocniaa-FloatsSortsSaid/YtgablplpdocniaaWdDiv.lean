/- The contract of 'Div64'. No statement of the seat is proved here. -/
import Derived.Test.YtgablplpdocniaaWdKnuth
set_option linter.unusedSimpArgs false
set_option linter.unusedVariables false
namespace Go.Proofs.Ytgablplpdocniaa
open Go Go.Sx

theorem div_end (Y s u0 Q1 n Q0 a b : Nat) (x1 x2 x3 x4 x5 x6 x7 x8 x9 x10 x11 x12 x13 x14 x15 x16 x17 : AV) (ea : (Q1 * 4294967296 % 18446744073709551616 + Q0) % 18446744073709551616 = a)
    (eb : ((n * 4294967296 % 18446744073709551616 + u0) % 18446744073709551616 + 18446744073709551616 - Q0 * Y % 18446744073709551616 % 18446744073709551616) % 18446744073709551616 / 2 ^ (min s 64) = b) :
    W Try.prog E0 (keysOf []) (SEnds (keysOf []) r_bits_Div64 (.tp [U a, U b]) []) s_bits_Div64_t2 []
      [(0, x1), (1, x2), (2, U Y), (6, x3), (7, x4), (8, U s), (9, x5), (10, x6), (11, x7), (12, x8), (13, x9), (14, U u0), (15, U Q1), (16, x10), (17, U n), (18, U Q0), (20, x11), (24, x12), (27, x13), (78, x14), (85, x15), (113, x16), (120, x17)] [] := by
  simp only [go_sem, s_bits_Div64_t2, ea, eb, ↓reduceIte, Nat.reduceEqDiff, Nat.reduceAdd, Nat.reduceLeDiff, reduceCtorEq, Nat.reduceLT, Int.reduceLT, Int.reduceLE, Int.reduceEq, Int.reduceToNat, Nat.reduceMul]
  refine wends (by first | exact Or.inl rfl | exact Or.inr rfl) ?_ (by first | rfl | simp [AV.ids, idsL])
  simp only [go_sem, r_bits_Div64, ↓reduceIte, Nat.reduceEqDiff, Nat.reduceAdd, Nat.reduceLeDiff, reduceCtorEq, Nat.reduceLT, Int.reduceLT, Int.reduceLE, Int.reduceEq, Int.reduceToNat, Nat.reduceMul]

theorem div_low (Y s y1 y0 u u1 u0 Q1 a b : Nat) (x1 x2 x3 x4 x8 x10 x11 x12 x13 x14 x15 x16 x17 x18 x19 : AV) (hY : Y = y1 * 4294967296 + y0) (hYM : Y < 18446744073709551616) (hy1 : y1 < 4294967296) (hy0 : y0 < 4294967296) (hn : 4294967296 ≤ 2 * y1) (hu0 : u0 < 4294967296)
    (hQ1 : Q1 < 4294967296) (n : Nat) (en : ((u * 4294967296 % 18446744073709551616 + u1) % 18446744073709551616 + 18446744073709551616 - Q1 * Y % 18446744073709551616 % 18446744073709551616) % 18446744073709551616 = n) (hnY : n < Y)
    (ea : Q1 * 4294967296 + (n * 4294967296 + u0) / Y = a) (eb : (n * 4294967296 + u0) % Y / 2 ^ (min s 64) = b) :
    W Try.prog E0 (keysOf []) (SEnds (keysOf []) r_bits_Div64 (.tp [U a, U b]) []) s_bits_Div64_t3 []
      [(0, x1), (1, x2), (2, U Y), (6, x3), (7, x4), (8, U s), (9, U y1), (10, U y0), (11, U u), (12, x8), (13, U u1), (14, U u0), (15, U Q1), (16, x10), (17, x18), (18, x19), (20, x11), (24, x12), (27, x13), (78, x14), (85, x15), (113, x16), (120, x17)] [] := by
  have hz : ¬ y1 = 0 := by omega
  have hd : n / y1 % 18446744073709551616 = n / y1 := Nat.mod_eq_of_lt (Nat.lt_of_le_of_lt (Nat.div_le_self _ _) (by omega))
  have hr : (n + 18446744073709551616 - n / y1 * y1 % 18446744073709551616 % 18446744073709551616) % 18446744073709551616 = n % y1 := by
    have := Nat.div_add_mod' n y1
    generalize n / y1 * y1 = m at *
    generalize n % y1 = r at *
    omega
  have hnY' : n < y1 * 4294967296 + y0 := by omega
  have hg := guess_first (u := n) (u1 := u0) hnY' hu0 hy0 hy1 hn
  have hdig := digit_lt hnY' hu0
  have hYp : 0 < y1 * 4294967296 + y0 := by omega
  -- the end, whatever the loop leaves
  have fin : ∀ q : Nat, q = (n * 4294967296 + u0) / (y1 * 4294967296 + y0) → (Q1 * 4294967296 % 18446744073709551616 + q) % 18446744073709551616 = a ∧ ((n * 4294967296 % 18446744073709551616 + u0) % 18446744073709551616 + 18446744073709551616 - q * Y % 18446744073709551616 % 18446744073709551616) % 18446744073709551616 / 2 ^ (min s 64) = b := by
    intro q hq
    rw [← hY] at hq hdig
    rw [← hq] at ea hdig
    refine ⟨by omega, ?_⟩
    rw [← eb]
    apply congrArg (· / 2 ^ (min s 64))
    have h1 := Nat.div_add_mod' (n * 4294967296 + u0) Y
    have h2 : (n * 4294967296 + u0) % Y < Y := Nat.mod_lt _ (by omega)
    rw [← hq] at h1
    obtain ⟨m, hm⟩ : ∃ m, (n * 4294967296 + u0) % Y = m := ⟨_, rfl⟩
    obtain ⟨w, hw⟩ : ∃ w, q * Y = w := ⟨_, rfl⟩
    rw [hm] at h1 h2 ⊢
    rw [hw] at h1 ⊢
    clear hdig hd hr hg ea eb en hq
    omega
  simp only [go_sem, s_bits_Div64_t3, en, u64_quo hz, hd, hr, ↓reduceIte, Nat.reduceEqDiff, Nat.reduceAdd, Nat.reduceLeDiff, reduceCtorEq, Nat.reduceLT, Int.reduceLT, Int.reduceLE, Int.reduceEq, Int.reduceToNat, Nat.reduceMul]
  refine W_loop (fun x : Nat × Nat => x.1) (fun x => Guess n u0 y1 y0 x.1 x.2)
    (fun x => [(2, U Y), (8, U s), (9, U y1), (10, U y0), (14, U u0), (15, U Q1), (16, U x.2), (17, U n), (18, U x.1)])
    (fun x => []) (n / y1, n % y1) hg (subL [] [] (by simp [envS, go_sem, wkV, wkL, AV.ids, idsL, keysOf, ren]) (by simp [stoS, go_sem, wkV, wkL, wkO, AV.ids, Ob.ids, idsL, keysOf, ren, AV.one]) (by simp [keysOf, ren]) (by simp) (by simp [keysOf]) (by simp [keysOf])) ?_
  rintro ⟨q, r⟩ g
  simp only at g
  have gr := g.r
  have gl := g.le
  have e0 : 0 < q → (q + 18446744073709551616 - 1 % 18446744073709551616) % 18446744073709551616 = q - 1 := by omega
  have e2 : (r + y1) % 18446744073709551616 = r + y1 := by omega
  cases hq : decide (4294967296 ≤ q)
  · have hq' : q < 4294967296 := by simpa using hq
    have e3 : q * y0 % 18446744073709551616 = q * y0 := by
      have := Nat.mul_le_mul (show q ≤ 4294967295 by omega) (show y0 ≤ 4294967295 by omega)
      exact Nat.mod_eq_of_lt (by omega)
    have e4 : (4294967296 * r % 18446744073709551616 + u0) % 18446744073709551616 = 4294967296 * r + u0 := by omega
    simp only [go_sem, s_bits_Div64_b1, hq, e3, e4, ↓reduceIte, Nat.reduceEqDiff, Nat.reduceAdd, Nat.reduceLeDiff, reduceCtorEq, Nat.reduceLT, Int.reduceLT, Int.reduceLE, Int.reduceEq, Int.reduceToNat, Nat.reduceMul]
    refine W_split rfl (fun h => ?_) (fun h => ?_)
    · have hnext := guess_next hnY' hu0 g (Or.inr (by simpa using h))
      have e1 := e0 hnext.2.1
      simp only [go_sem, e1, e2, ↓reduceIte, Nat.reduceEqDiff, Nat.reduceAdd, Nat.reduceLeDiff, reduceCtorEq, Nat.reduceLT, Int.reduceLT, Int.reduceLE, Int.reduceEq, Int.reduceToNat, Nat.reduceMul]
      refine W_split rfl (fun h5 => ?_) (fun h5 => ?_)
      · simp only [go_sem, ↓reduceIte, Nat.reduceEqDiff, Nat.reduceAdd, Nat.reduceLeDiff, reduceCtorEq, Nat.reduceLT, Int.reduceLT, Int.reduceLE, Int.reduceEq, Int.reduceToNat, Nat.reduceMul]
        have hb := guess_broke hYp hy0 hnext.2.2 hnext.1 (by omega) (by simpa using h5)
        exact div_end _ _ _ _ _ _ _ _ _ _ _ _ _ _ _ _ _ _ _ _ _ _ _ _ _ (fin _ hb).1 (fin _ hb).2
      · simp only [go_sem, ↓reduceIte, Nat.reduceEqDiff, Nat.reduceAdd, Nat.reduceLeDiff, reduceCtorEq, Nat.reduceLT, Int.reduceLT, Int.reduceLE, Int.reduceEq, Int.reduceToNat, Nat.reduceMul]
        refine rd_of (q - 1, r + y1) (by simp only; omega) ⟨hnext.2.2, by simpa using h5, hnext.1, by simp only; omega⟩ (subL [] [] (by simp [envS, go_sem, wkV, wkL, AV.ids, idsL, keysOf, ren]) (by simp [stoS, go_sem, wkV, wkL, wkO, AV.ids, Ob.ids, idsL, keysOf, ren, AV.one]) (by simp [keysOf, ren]) (by simp) (by simp [keysOf]) (by simp [keysOf]))
    · simp only [go_sem, ↓reduceIte, Nat.reduceEqDiff, Nat.reduceAdd, Nat.reduceLeDiff, reduceCtorEq, Nat.reduceLT, Int.reduceLT, Int.reduceLE, Int.reduceEq, Int.reduceToNat, Nat.reduceMul]
      have hb := guess_done hYp g (by simpa using h)
      exact div_end _ _ _ _ _ _ _ _ _ _ _ _ _ _ _ _ _ _ _ _ _ _ _ _ _ (fin _ hb).1 (fin _ hb).2
  · have hnext := guess_next hnY' hu0 g (Or.inl (by simpa using hq))
    have e1 := e0 hnext.2.1
    simp only [go_sem, s_bits_Div64_b1, hq, e1, e2, ↓reduceIte, Nat.reduceEqDiff, Nat.reduceAdd, Nat.reduceLeDiff, reduceCtorEq, Nat.reduceLT, Int.reduceLT, Int.reduceLE, Int.reduceEq, Int.reduceToNat, Nat.reduceMul]
    refine W_split rfl (fun h5 => ?_) (fun h5 => ?_)
    · simp only [go_sem, ↓reduceIte, Nat.reduceEqDiff, Nat.reduceAdd, Nat.reduceLeDiff, reduceCtorEq, Nat.reduceLT, Int.reduceLT, Int.reduceLE, Int.reduceEq, Int.reduceToNat, Nat.reduceMul]
      have hb := guess_broke hYp hy0 hnext.2.2 hnext.1 (by omega) (by simpa using h5)
      exact div_end _ _ _ _ _ _ _ _ _ _ _ _ _ _ _ _ _ _ _ _ _ _ _ _ _ (fin _ hb).1 (fin _ hb).2
    · simp only [go_sem, ↓reduceIte, Nat.reduceEqDiff, Nat.reduceAdd, Nat.reduceLeDiff, reduceCtorEq, Nat.reduceLT, Int.reduceLT, Int.reduceLE, Int.reduceEq, Int.reduceToNat, Nat.reduceMul]
      refine rd_of (q - 1, r + y1) (by simp only; omega) ⟨hnext.2.2, by simpa using h5, hnext.1, by simp only; omega⟩ (subL [] [] (by simp [envS, go_sem, wkV, wkL, AV.ids, idsL, keysOf, ren]) (by simp [stoS, go_sem, wkV, wkL, wkO, AV.ids, Ob.ids, idsL, keysOf, ren, AV.one]) (by simp [keysOf, ren]) (by simp) (by simp [keysOf]) (by simp [keysOf]))

theorem f_bits_Div64_z (lo y : Nat) (hlo : lo < 18446744073709551616) (hy : y < 18446744073709551616) (h0 : 0 < y) : Meets Try.prog E0 n_bits_Div64 [U (0 : Nat), U lo, U y] [] (.tp [U (lo / y : Nat), U (lo % y : Nat)]) [] := by
  refine m_bits_Div64 (by simp) (shut0 rfl) (shut0 rfl) (by simp) (by simp [keysOf]) ?_
  have hz : ¬ y = 0 := by omega
  have h1 : decide (y = 0) = false := by simpa using hz
  have h2 : decide (y ≤ 0) = false := by simpa using hz
  have h3 : decide ((0 : Nat) = 0) = true := rfl
  have hd : lo / y % 18446744073709551616 = lo / y := Nat.mod_eq_of_lt (Nat.lt_of_le_of_lt (Nat.div_le_self _ _) hlo)
  simp only [go_sem, s_bits_Div64, h1, h2, h3, u64_quo hz, u64_rem hz, hd, ↓reduceIte, Nat.reduceEqDiff, Nat.reduceAdd, Nat.reduceLeDiff, reduceCtorEq, Nat.reduceLT, Int.reduceLT, Int.reduceLE, Int.reduceEq, Int.reduceToNat, Nat.reduceMul]
  refine wends (by first | exact Or.inl rfl | exact Or.inr rfl) ?_ (by first | rfl | simp [AV.ids, idsL])
  simp only [go_sem, r_bits_Div64, ↓reduceIte, Nat.reduceEqDiff, Nat.reduceAdd, Nat.reduceLeDiff, reduceCtorEq, Nat.reduceLT, Int.reduceLT, Int.reduceLE, Int.reduceEq, Int.reduceToNat, Nat.reduceMul]

theorem f_bits_Div64 (hi lo y : Nat) (hlo : lo < 18446744073709551616) (hy : y < 18446744073709551616) (hhi : hi < y) : Meets Try.prog E0 n_bits_Div64 [U hi, U lo, U y] [] (.tp [U ((hi * 18446744073709551616 + lo) / y : Nat), U ((hi * 18446744073709551616 + lo) % y : Nat)]) [] := by
  by_cases h0 : hi = 0
  · subst h0
    rw [Nat.zero_mul, Nat.zero_add]
    exact f_bits_Div64_z lo y hlo hy (by omega)
  refine m_bits_Div64 (by simp) (shut0 rfl) (shut0 rfl) (by simp) (by simp [keysOf]) ?_
  have h1 : decide (y = 0) = false := by simp; omega
  have h2 : decide (y ≤ hi) = false := by simp; omega
  have h3 : decide (hi = 0) = false := by simpa using h0
  obtain ⟨L, hL⟩ := bits_exists y
  have hL64 : L ≤ 64 := (bits_le hL).2 hy
  obtain ⟨s, hs⟩ : ∃ s, s = 64 - L := ⟨_, rfl⟩
  have es : IntKind.u64.wrap ((64 - L : Nat) : Int) = (s : Int) := by rw [wrap_u64]; omega
  have hL0 : L ≠ 0 := by
    intro e; subst e
    have := hL.1
    simp at this
    omega
  have hPQ : 2 ^ s * 2 ^ (64 - s) = 18446744073709551616 := by rw [← Nat.pow_add, show s + (64 - s) = 64 by omega]
  have hp := Nat.two_pow_pos s
  -- the divisor, pushed up
  obtain ⟨Y, hYd⟩ : ∃ Y, Y = y * 2 ^ s := ⟨_, rfl⟩
  have hYM : Y < 18446744073709551616 := by
    have := (Nat.mul_lt_mul_right (a0 := hp)).2 hL.1
    rw [← Nat.pow_add, show L + s = 64 by omega] at this
    rw [hYd]; exact this
  have hYn : 9223372036854775808 ≤ Y := by
    have := Nat.mul_le_mul_right (2 ^ s) (hL.2.resolve_left hL0)
    rw [← Nat.pow_add, show L - 1 + s = 63 by omega] at this
    rw [hYd]; exact this
  have E1 : y * 2 ^ (min s 64) % 18446744073709551616 = Y := by rw [Nat.min_eq_left (by omega), ← hYd]; exact Nat.mod_eq_of_lt hYM
  obtain ⟨y1, hy1d⟩ : ∃ y1, Y / 4294967296 = y1 := ⟨_, rfl⟩
  obtain ⟨y0, hy0d⟩ : ∃ y0, Y % 4294967296 = y0 := ⟨_, rfl⟩
  have hY : Y = y1 * 4294967296 + y0 := by omega
  have hy1 : y1 < 4294967296 := by omega
  have hy0 : y0 < 4294967296 := by omega
  have hn : 4294967296 ≤ 2 * y1 := by omega
  have E2 : (64 + 18446744073709551616 - s % 18446744073709551616) % 18446744073709551616 = 64 - s := by omega
  -- the dividend, pushed up
  have ht : lo / 2 ^ (64 - s) < 2 ^ s := by rw [Nat.div_lt_iff_lt_mul (Nat.two_pow_pos _), hPQ]; exact hlo
  obtain ⟨u, hu⟩ : ∃ u, u = hi * 2 ^ s + lo / 2 ^ (64 - s) := ⟨_, rfl⟩
  have huY : u < Y := by
    have := Nat.mul_le_mul_right (2 ^ s) (show hi + 1 ≤ y by omega)
    rw [Nat.add_mul, Nat.one_mul, ← hYd] at this
    omega
  have hhs : hi * 2 ^ s < 18446744073709551616 := by
    have := Nat.le_add_right (hi * 2 ^ s) (lo / 2 ^ (64 - s))
    rw [← hu] at this
    omega
  have E3 : hi * 2 ^ (min s 64) % 18446744073709551616 % 18446744073709551616 ||| lo / 2 ^ (min (64 - s) 64) % 18446744073709551616 = u := by
    rw [Nat.min_eq_left (show s ≤ 64 by omega), Nat.min_eq_left (show 64 - s ≤ 64 by omega), shl_or (by omega) ht, Nat.mod_eq_of_lt hhs, ← hu]
  obtain ⟨v, hv⟩ : ∃ v, v = lo * 2 ^ s % 18446744073709551616 := ⟨_, rfl⟩
  have E4 : lo * 2 ^ (min s 64) % 18446744073709551616 = v := by rw [Nat.min_eq_left (by omega), ← hv]
  have hvM : v < 18446744073709551616 := by rw [hv]; exact Nat.mod_lt _ (by decide)
  obtain ⟨u1, hu1d⟩ : ∃ u1, v / 4294967296 = u1 := ⟨_, rfl⟩
  obtain ⟨u0, hu0d⟩ : ∃ u0, v % 4294967296 = u0 := ⟨_, rfl⟩
  have hu1 : u1 < 4294967296 := by omega
  have hu0 : u0 < 4294967296 := by omega
  have hN : (hi * 18446744073709551616 + lo) * 2 ^ s = (u * 4294967296 + u1) * 4294967296 + u0 := by
    have hl : lo * 2 ^ s = lo / 2 ^ (64 - s) * 18446744073709551616 + v := by
      have := Nat.div_add_mod' (lo * 2 ^ s) 18446744073709551616
      have hdv : ∀ l : Nat, l * 2 ^ s / 18446744073709551616 = l / 2 ^ (64 - s) := by
        intro l
        rw [← hPQ, Nat.mul_comm l, Nat.mul_div_mul_left _ _ hp]
      rw [← hv, hdv] at this
      exact this.symm
    rw [Nat.add_mul, hl, Nat.mul_right_comm]
    generalize hi * 2 ^ s = w at *
    generalize lo / 2 ^ (64 - s) = t at *
    omega
  -- the numbers of the first digit
  have hz : ¬ y1 = 0 := by omega
  have hd : u / y1 % 18446744073709551616 = u / y1 := Nat.mod_eq_of_lt (Nat.lt_of_le_of_lt (Nat.div_le_self _ _) (by omega))
  have hr : (u + 18446744073709551616 - u / y1 * y1 % 18446744073709551616 % 18446744073709551616) % 18446744073709551616 = u % y1 := by
    have := Nat.div_add_mod' u y1
    generalize u / y1 * y1 = m at *
    generalize u % y1 = r at *
    omega
  have huY' : u < y1 * 4294967296 + y0 := by omega
  have hg := guess_first (u := u) (u1 := u1) huY' hu1 hy0 hy1 hn
  have hdig := digit_lt huY' hu1
  have hYp : 0 < y1 * 4294967296 + y0 := by omega
  have p32 : 2 ^ (min 32 64) = 4294967296 := rfl
  -- what is behind the first loop
  have tail : ∀ (q : Nat) (x1 x2 x3 x4 x8 x10 x11 x12 x13 x14 x15 x16 x17 x18 x19 : AV), q = (u * 4294967296 + u1) / (y1 * 4294967296 + y0) →
      W Try.prog E0 (keysOf []) (SEnds (keysOf []) r_bits_Div64 (.tp [U ((hi * 18446744073709551616 + lo) / y : Nat), U ((hi * 18446744073709551616 + lo) % y : Nat)]) []) s_bits_Div64_t3 []
      [(0, x1), (1, x2), (2, U Y), (6, x3), (7, x4), (8, U s), (9, U y1), (10, U y0), (11, U u), (12, x8), (13, U u1), (14, U u0), (15, U q), (16, x10), (17, x18), (18, x19), (20, x11), (24, x12), (27, x13), (78, x14), (85, x15), (113, x16), (120, x17)] [] := by
    intro q x1 x2 x3 x4 x8 x10 x11 x12 x13 x14 x15 x16 x17 x18 x19 hq
    rw [← hY] at hq hdig
    rw [← hq] at hdig
    obtain ⟨n, hnd⟩ : ∃ n, (u * 4294967296 + u1) % Y = n := ⟨_, rfl⟩
    have hnY : n < Y := by rw [← hnd]; exact Nat.mod_lt _ (by omega)
    have htwo := two_digits (n := u * 4294967296 + u1) (un0 := u0) (show 0 < Y by omega)
    rw [← hq, hnd, ← hN] at htwo
    have hen : ((u * 4294967296 % 18446744073709551616 + u1) % 18446744073709551616 + 18446744073709551616 - q * Y % 18446744073709551616 % 18446744073709551616) % 18446744073709551616 = n := by
      have h7 := Nat.div_add_mod' (u * 4294967296 + u1) Y
      rw [← hq, hnd] at h7
      obtain ⟨w, hw⟩ : ∃ w, q * Y = w := ⟨_, rfl⟩
      rw [hw] at h7 ⊢
      clear htwo hdig hg hd hr hN hq hnd hw
      omega
    refine div_low Y s y1 y0 u u1 u0 q _ _ _ _ _ _ _ _ _ _ _ _ _ _ _ _ _ hY hYM hy1 hy0 hn hu0 hdig n hen hnY ?_ ?_
    · rw [← htwo.1, hYd, Nat.mul_div_mul_right _ _ hp]
    · rw [← htwo.2, hYd, Nat.mul_mod_mul_right, Nat.min_eq_left (by omega), Nat.mul_div_cancel _ hp]
  simp only [go_sem, s_bits_Div64, h1, h2, h3, ↓reduceIte, Nat.reduceEqDiff, Nat.reduceAdd, Nat.reduceLeDiff, reduceCtorEq, Nat.reduceLT, Int.reduceLT, Int.reduceLE, Int.reduceEq, Int.reduceToNat, Nat.reduceMul]
  refine Cl_plain (f_bits_LeadingZeros64 y L hy hL hL64) ?_
  simp only [go_sem, es, E1, E2, E3, E4, p32, and_32, hy1d, hy0d, hu1d, hu0d, u64_quo hz, hd, hr, ↓reduceIte, Nat.reduceEqDiff, Nat.reduceAdd, Nat.reduceLeDiff, reduceCtorEq, Nat.reduceLT, Int.reduceLT, Int.reduceLE, Int.reduceEq, Int.reduceToNat, Nat.reduceMul]
  refine W_loop (fun x : Nat × Nat => x.1) (fun x => Guess u u1 y1 y0 x.1 x.2)
    (fun x => [(2, U Y), (8, U s), (9, U y1), (10, U y0), (11, U u), (13, U u1), (14, U u0), (15, U x.1), (16, U x.2)])
    (fun x => []) (u / y1, u % y1) hg (subL [] [] (by simp [envS, go_sem, wkV, wkL, AV.ids, idsL, keysOf, ren]) (by simp [stoS, go_sem, wkV, wkL, wkO, AV.ids, Ob.ids, idsL, keysOf, ren, AV.one]) (by simp [keysOf, ren]) (by simp) (by simp [keysOf]) (by simp [keysOf])) ?_
  rintro ⟨q, r⟩ g
  simp only at g
  have gr := g.r
  have gl := g.le
  have e0 : 0 < q → (q + 18446744073709551616 - 1 % 18446744073709551616) % 18446744073709551616 = q - 1 := by omega
  have e2 : (r + y1) % 18446744073709551616 = r + y1 := by omega
  cases hq : decide (4294967296 ≤ q)
  · have hq' : q < 4294967296 := by simpa using hq
    have e3 : q * y0 % 18446744073709551616 = q * y0 := by
      have := Nat.mul_le_mul (show q ≤ 4294967295 by omega) (show y0 ≤ 4294967295 by omega)
      exact Nat.mod_eq_of_lt (by omega)
    have e4 : (4294967296 * r % 18446744073709551616 + u1) % 18446744073709551616 = 4294967296 * r + u1 := by omega
    simp only [go_sem, s_bits_Div64_b0, hq, e3, e4, ↓reduceIte, Nat.reduceEqDiff, Nat.reduceAdd, Nat.reduceLeDiff, reduceCtorEq, Nat.reduceLT, Int.reduceLT, Int.reduceLE, Int.reduceEq, Int.reduceToNat, Nat.reduceMul]
    refine W_split rfl (fun h => ?_) (fun h => ?_)
    · have hnext := guess_next huY' hu1 g (Or.inr (by simpa using h))
      have e1 := e0 hnext.2.1
      simp only [go_sem, e1, e2, ↓reduceIte, Nat.reduceEqDiff, Nat.reduceAdd, Nat.reduceLeDiff, reduceCtorEq, Nat.reduceLT, Int.reduceLT, Int.reduceLE, Int.reduceEq, Int.reduceToNat, Nat.reduceMul]
      refine W_split rfl (fun h5 => ?_) (fun h5 => ?_)
      · simp only [go_sem, ↓reduceIte, Nat.reduceEqDiff, Nat.reduceAdd, Nat.reduceLeDiff, reduceCtorEq, Nat.reduceLT, Int.reduceLT, Int.reduceLE, Int.reduceEq, Int.reduceToNat, Nat.reduceMul]
        have hb := guess_broke hYp hy0 hnext.2.2 hnext.1 (by omega) (by simpa using h5)
        exact tail _ _ _ _ _ _ _ _ _ _ _ _ _ _ _ _ hb
      · simp only [go_sem, ↓reduceIte, Nat.reduceEqDiff, Nat.reduceAdd, Nat.reduceLeDiff, reduceCtorEq, Nat.reduceLT, Int.reduceLT, Int.reduceLE, Int.reduceEq, Int.reduceToNat, Nat.reduceMul]
        refine rd_of (q - 1, r + y1) (by simp only; omega) ⟨hnext.2.2, by simpa using h5, hnext.1, by simp only; omega⟩ (subL [] [] (by simp [envS, go_sem, wkV, wkL, AV.ids, idsL, keysOf, ren]) (by simp [stoS, go_sem, wkV, wkL, wkO, AV.ids, Ob.ids, idsL, keysOf, ren, AV.one]) (by simp [keysOf, ren]) (by simp) (by simp [keysOf]) (by simp [keysOf]))
    · simp only [go_sem, ↓reduceIte, Nat.reduceEqDiff, Nat.reduceAdd, Nat.reduceLeDiff, reduceCtorEq, Nat.reduceLT, Int.reduceLT, Int.reduceLE, Int.reduceEq, Int.reduceToNat, Nat.reduceMul]
      have hb := guess_done hYp g (by simpa using h)
      exact tail _ _ _ _ _ _ _ _ _ _ _ _ _ _ _ _ hb
  · have hnext := guess_next huY' hu1 g (Or.inl (by simpa using hq))
    have e1 := e0 hnext.2.1
    simp only [go_sem, s_bits_Div64_b0, hq, e1, e2, ↓reduceIte, Nat.reduceEqDiff, Nat.reduceAdd, Nat.reduceLeDiff, reduceCtorEq, Nat.reduceLT, Int.reduceLT, Int.reduceLE, Int.reduceEq, Int.reduceToNat, Nat.reduceMul]
    refine W_split rfl (fun h5 => ?_) (fun h5 => ?_)
    · simp only [go_sem, ↓reduceIte, Nat.reduceEqDiff, Nat.reduceAdd, Nat.reduceLeDiff, reduceCtorEq, Nat.reduceLT, Int.reduceLT, Int.reduceLE, Int.reduceEq, Int.reduceToNat, Nat.reduceMul]
      have hb := guess_broke hYp hy0 hnext.2.2 hnext.1 (by omega) (by simpa using h5)
      exact tail _ _ _ _ _ _ _ _ _ _ _ _ _ _ _ _ hb
    · simp only [go_sem, ↓reduceIte, Nat.reduceEqDiff, Nat.reduceAdd, Nat.reduceLeDiff, reduceCtorEq, Nat.reduceLT, Int.reduceLT, Int.reduceLE, Int.reduceEq, Int.reduceToNat, Nat.reduceMul]
      refine rd_of (q - 1, r + y1) (by simp only; omega) ⟨hnext.2.2, by simpa using h5, hnext.1, by simp only; omega⟩ (subL [] [] (by simp [envS, go_sem, wkV, wkL, AV.ids, idsL, keysOf, ren]) (by simp [stoS, go_sem, wkV, wkL, wkO, AV.ids, Ob.ids, idsL, keysOf, ren, AV.one]) (by simp [keysOf, ren]) (by simp) (by simp [keysOf]) (by simp [keysOf]))

end Go.Proofs.Ytgablplpdocniaa
