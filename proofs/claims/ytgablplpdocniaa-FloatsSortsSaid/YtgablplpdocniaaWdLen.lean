/- The contracts of 'Len64' and 'LeadingZeros64'. No statement of the seat is proved here. -/
import Derived.Test.YtgablplpdocniaaWdRoot
set_option linter.unusedSimpArgs false
set_option linter.unusedVariables false
namespace Go.Proofs.Ytgablplpdocniaa
open Go Go.Sx

/-- L is the number of bits of x. -/
def Bits (x L : Nat) : Prop := x < 2 ^ L ∧ (L = 0 ∨ 2 ^ (L - 1) ≤ x)

theorem bits_unique {x L M : Nat} (h : Bits x L) (k : Bits x M) : L = M := by
  have key : ∀ {L M : Nat}, Bits x L → Bits x M → L ≤ M := by
    intro L M h k
    rcases h.2 with h2 | h2
    · omega
    · have h3 : 2 ^ (L - 1) < 2 ^ M := Nat.lt_of_le_of_lt h2 k.1
      have := (Nat.pow_lt_pow_iff_right (show 1 < 2 by decide)).1 h3
      omega
  exact Nat.le_antisymm (key h k) (key k h)

theorem bits_shift {x n k : Nat} (h : Bits (x / 2 ^ n) k) (hk : 0 < k) : Bits x (n + k) := by
  refine ⟨?_, Or.inr ?_⟩
  · have := (Nat.div_lt_iff_lt_mul (Nat.two_pow_pos n)).1 h.1
    rwa [Nat.pow_add, Nat.mul_comm]
  · have h2 := h.2.resolve_left (by omega)
    have := (Nat.le_div_iff_mul_le (Nat.two_pow_pos n)).1 h2
    rwa [← Nat.pow_add, show k - 1 + n = n + k - 1 by omega] at this

def bl8 (y : Nat) : Nat := if y < 1 then 0 else if y < 2 then 1 else if y < 4 then 2 else if y < 8 then 3 else if y < 16 then 4 else if y < 32 then 5 else if y < 64 then 6 else if y < 128 then 7 else 8

theorem bl8_bits {y : Nat} (h : y < 256) : Bits y (bl8 y) ∧ bl8 y ≤ 8 ∧ (0 < y → 0 < bl8 y) := by
  unfold bl8 Bits
  repeat' split
  all_goals (simp; try omega)

theorem tab_get : ∀ y, y < 256 → ∃ b, k_bits_Len64_0[y]? = some b ∧ b.toNat = bl8 y := by
  have h : ∀ y, y < 256 → (k_bits_Len64_0[y]?).map (fun b => b.toNat) = some (bl8 y) := by decide +kernel
  intro y hy
  have := h y hy
  cases hb : k_bits_Len64_0[y]? with
  | none => rw [hb] at this; cases this
  | some b => rw [hb] at this; exact ⟨b, rfl, Option.some.inj this⟩

theorem bits_end {x L n : Nat} (hL : Bits x L) (hy : x / 2 ^ n < 256) (h0 : n = 0 ∨ 0 < x / 2 ^ n) : n + bl8 (x / 2 ^ n) = L := by
  obtain ⟨h1, h2, h3⟩ := bl8_bits hy
  rcases h0 with rfl | h0
  · simp only [Nat.pow_zero, Nat.div_one, Nat.zero_add] at h1 ⊢
    exact bits_unique h1 hL
  · exact bits_unique (bits_shift h1 (h3 h0)) hL

set_option maxRecDepth 20000 in
theorem f_bits_Len64 (x L : Nat) (hx : x < 18446744073709551616) (hL : Bits x L) : Meets Try.prog E0 n_bits_Len64 [U x] [] (I L) [] := by
  refine m_bits_Len64 (by simp) (shut0 rfl) (shut0 rfl) (by simp) (by simp [keysOf]) ?_
  have p32 : 2 ^ (min 32 64) = 4294967296 := rfl
  have p16 : 2 ^ (min 16 64) = 65536 := rfl
  have p8 : 2 ^ (min 8 64) = 256 := rfl
  have q1 : IntKind.i64.wrap (0 + 16) = 16 := rfl
  have q2 : IntKind.i64.wrap (32 + 16) = 48 := rfl
  have q3 : IntKind.i64.wrap (0 + 8) = 8 := rfl
  have q4 : IntKind.i64.wrap (16 + 8) = 24 := rfl
  have q5 : IntKind.i64.wrap (32 + 8) = 40 := rfl
  have q6 : IntKind.i64.wrap (48 + 8) = 56 := rfl
  simp only [go_sem, s_bits_Len64, p32, ↓reduceIte, Nat.reduceEqDiff, Nat.reduceAdd, Nat.reduceLeDiff, reduceCtorEq, Nat.reduceLT, Int.reduceLT, Int.reduceLE, Int.reduceEq, Int.reduceToNat, Nat.reduceMul]
  refine W_split rfl (fun h1 => ?_) (fun h1 => ?_)
  · simp at h1
    simp only [go_sem, p32, p16, p8, q1, q2, q3, q4, q5, q6, ↓reduceIte, Nat.reduceEqDiff, Nat.reduceAdd, Nat.reduceLeDiff, reduceCtorEq, Nat.reduceLT, Int.reduceLT, Int.reduceLE, Int.reduceEq, Int.reduceToNat, Nat.reduceMul]
    refine W_split rfl (fun h2 => ?_) (fun h2 => ?_)
    · simp at h2
      simp only [go_sem, p32, p16, p8, q1, q2, q3, q4, q5, q6, ↓reduceIte, Nat.reduceEqDiff, Nat.reduceAdd, Nat.reduceLeDiff, reduceCtorEq, Nat.reduceLT, Int.reduceLT, Int.reduceLE, Int.reduceEq, Int.reduceToNat, Nat.reduceMul]
      refine W_split rfl (fun h3 => ?_) (fun h3 => ?_)
      · simp at h3
        have hy : x / 2 ^ 56 < 256 := by omega
        have hxy : x / 4294967296 / 65536 / 256 = x / 2 ^ 56 := by omega
        obtain ⟨b, hb, hbn⟩ := tab_get _ hy
        have e1 : IntKind.u8.wrap ((x / 2 ^ 56 : Nat) : Int) = ((x / 2 ^ 56 : Nat) : Int) := by rw [wrap_u8]; omega
        have e2 : IntKind.i64.wrap ((bl8 (x / 2 ^ 56) : Nat) : Int) = ((bl8 (x / 2 ^ 56) : Nat) : Int) := by
          have := (bl8_bits hy).2.1
          rw [wrap_i64_of (by omega) (by omega)]
        have e3 := bits_end (n := 56) hL hy (by omega)
        simp only [go_sem, p32, p16, p8, q1, q2, q3, q4, q5, q6, hxy, e1, hb, hbn, e2, Int.toNat_natCast, Int.natCast_nonneg, ↓reduceIte, Nat.reduceEqDiff, Nat.reduceAdd, Nat.reduceLeDiff, reduceCtorEq, Nat.reduceLT, Int.reduceLT, Int.reduceLE, Int.reduceEq, Int.reduceToNat, Nat.reduceMul]
        refine wends (by first | exact Or.inl rfl | exact Or.inr rfl) ?_ (by first | rfl | simp [AV.ids, idsL])
        simp only [go_sem, r_bits_Len64, ↓reduceIte, Nat.reduceEqDiff, Nat.reduceAdd, Nat.reduceLeDiff, reduceCtorEq, Nat.reduceLT, Int.reduceLT, Int.reduceLE, Int.reduceEq, Int.reduceToNat, Nat.reduceMul]
        have := (bl8_bits hy).2.1
        rw [wrap_i64_of (by omega) (by omega)]
        simp only [Option.some.injEq, AV.tp.injEq, AV.ag.injEq, List.cons.injEq, AV.t.injEq, T.v.injEq, T.sl.injEq, Value.int.injEq, Value.bool.injEq, Value.string.injEq, decide_eq_decide, true_and, and_true]
        omega
      · simp at h3
        have hy : x / 2 ^ 48 < 256 := by omega
        have hxy : x / 4294967296 / 65536 = x / 2 ^ 48 := by omega
        obtain ⟨b, hb, hbn⟩ := tab_get _ hy
        have e1 : IntKind.u8.wrap ((x / 2 ^ 48 : Nat) : Int) = ((x / 2 ^ 48 : Nat) : Int) := by rw [wrap_u8]; omega
        have e2 : IntKind.i64.wrap ((bl8 (x / 2 ^ 48) : Nat) : Int) = ((bl8 (x / 2 ^ 48) : Nat) : Int) := by
          have := (bl8_bits hy).2.1
          rw [wrap_i64_of (by omega) (by omega)]
        have e3 := bits_end (n := 48) hL hy (by omega)
        simp only [go_sem, p32, p16, p8, q1, q2, q3, q4, q5, q6, hxy, e1, hb, hbn, e2, Int.toNat_natCast, Int.natCast_nonneg, ↓reduceIte, Nat.reduceEqDiff, Nat.reduceAdd, Nat.reduceLeDiff, reduceCtorEq, Nat.reduceLT, Int.reduceLT, Int.reduceLE, Int.reduceEq, Int.reduceToNat, Nat.reduceMul]
        refine wends (by first | exact Or.inl rfl | exact Or.inr rfl) ?_ (by first | rfl | simp [AV.ids, idsL])
        simp only [go_sem, r_bits_Len64, ↓reduceIte, Nat.reduceEqDiff, Nat.reduceAdd, Nat.reduceLeDiff, reduceCtorEq, Nat.reduceLT, Int.reduceLT, Int.reduceLE, Int.reduceEq, Int.reduceToNat, Nat.reduceMul]
        have := (bl8_bits hy).2.1
        rw [wrap_i64_of (by omega) (by omega)]
        simp only [Option.some.injEq, AV.tp.injEq, AV.ag.injEq, List.cons.injEq, AV.t.injEq, T.v.injEq, T.sl.injEq, Value.int.injEq, Value.bool.injEq, Value.string.injEq, decide_eq_decide, true_and, and_true]
        omega
    · simp at h2
      simp only [go_sem, p32, p16, p8, q1, q2, q3, q4, q5, q6, ↓reduceIte, Nat.reduceEqDiff, Nat.reduceAdd, Nat.reduceLeDiff, reduceCtorEq, Nat.reduceLT, Int.reduceLT, Int.reduceLE, Int.reduceEq, Int.reduceToNat, Nat.reduceMul]
      refine W_split rfl (fun h3 => ?_) (fun h3 => ?_)
      · simp at h3
        have hy : x / 2 ^ 40 < 256 := by omega
        have hxy : x / 4294967296 / 256 = x / 2 ^ 40 := by omega
        obtain ⟨b, hb, hbn⟩ := tab_get _ hy
        have e1 : IntKind.u8.wrap ((x / 2 ^ 40 : Nat) : Int) = ((x / 2 ^ 40 : Nat) : Int) := by rw [wrap_u8]; omega
        have e2 : IntKind.i64.wrap ((bl8 (x / 2 ^ 40) : Nat) : Int) = ((bl8 (x / 2 ^ 40) : Nat) : Int) := by
          have := (bl8_bits hy).2.1
          rw [wrap_i64_of (by omega) (by omega)]
        have e3 := bits_end (n := 40) hL hy (by omega)
        simp only [go_sem, p32, p16, p8, q1, q2, q3, q4, q5, q6, hxy, e1, hb, hbn, e2, Int.toNat_natCast, Int.natCast_nonneg, ↓reduceIte, Nat.reduceEqDiff, Nat.reduceAdd, Nat.reduceLeDiff, reduceCtorEq, Nat.reduceLT, Int.reduceLT, Int.reduceLE, Int.reduceEq, Int.reduceToNat, Nat.reduceMul]
        refine wends (by first | exact Or.inl rfl | exact Or.inr rfl) ?_ (by first | rfl | simp [AV.ids, idsL])
        simp only [go_sem, r_bits_Len64, ↓reduceIte, Nat.reduceEqDiff, Nat.reduceAdd, Nat.reduceLeDiff, reduceCtorEq, Nat.reduceLT, Int.reduceLT, Int.reduceLE, Int.reduceEq, Int.reduceToNat, Nat.reduceMul]
        have := (bl8_bits hy).2.1
        rw [wrap_i64_of (by omega) (by omega)]
        simp only [Option.some.injEq, AV.tp.injEq, AV.ag.injEq, List.cons.injEq, AV.t.injEq, T.v.injEq, T.sl.injEq, Value.int.injEq, Value.bool.injEq, Value.string.injEq, decide_eq_decide, true_and, and_true]
        omega
      · simp at h3
        have hy : x / 2 ^ 32 < 256 := by omega
        have hxy : x / 4294967296 = x / 2 ^ 32 := by omega
        obtain ⟨b, hb, hbn⟩ := tab_get _ hy
        have e1 : IntKind.u8.wrap ((x / 2 ^ 32 : Nat) : Int) = ((x / 2 ^ 32 : Nat) : Int) := by rw [wrap_u8]; omega
        have e2 : IntKind.i64.wrap ((bl8 (x / 2 ^ 32) : Nat) : Int) = ((bl8 (x / 2 ^ 32) : Nat) : Int) := by
          have := (bl8_bits hy).2.1
          rw [wrap_i64_of (by omega) (by omega)]
        have e3 := bits_end (n := 32) hL hy (by omega)
        simp only [go_sem, p32, p16, p8, q1, q2, q3, q4, q5, q6, hxy, e1, hb, hbn, e2, Int.toNat_natCast, Int.natCast_nonneg, ↓reduceIte, Nat.reduceEqDiff, Nat.reduceAdd, Nat.reduceLeDiff, reduceCtorEq, Nat.reduceLT, Int.reduceLT, Int.reduceLE, Int.reduceEq, Int.reduceToNat, Nat.reduceMul]
        refine wends (by first | exact Or.inl rfl | exact Or.inr rfl) ?_ (by first | rfl | simp [AV.ids, idsL])
        simp only [go_sem, r_bits_Len64, ↓reduceIte, Nat.reduceEqDiff, Nat.reduceAdd, Nat.reduceLeDiff, reduceCtorEq, Nat.reduceLT, Int.reduceLT, Int.reduceLE, Int.reduceEq, Int.reduceToNat, Nat.reduceMul]
        have := (bl8_bits hy).2.1
        rw [wrap_i64_of (by omega) (by omega)]
        simp only [Option.some.injEq, AV.tp.injEq, AV.ag.injEq, List.cons.injEq, AV.t.injEq, T.v.injEq, T.sl.injEq, Value.int.injEq, Value.bool.injEq, Value.string.injEq, decide_eq_decide, true_and, and_true]
        omega
  · simp at h1
    simp only [go_sem, p32, p16, p8, q1, q2, q3, q4, q5, q6, ↓reduceIte, Nat.reduceEqDiff, Nat.reduceAdd, Nat.reduceLeDiff, reduceCtorEq, Nat.reduceLT, Int.reduceLT, Int.reduceLE, Int.reduceEq, Int.reduceToNat, Nat.reduceMul]
    refine W_split rfl (fun h2 => ?_) (fun h2 => ?_)
    · simp at h2
      simp only [go_sem, p32, p16, p8, q1, q2, q3, q4, q5, q6, ↓reduceIte, Nat.reduceEqDiff, Nat.reduceAdd, Nat.reduceLeDiff, reduceCtorEq, Nat.reduceLT, Int.reduceLT, Int.reduceLE, Int.reduceEq, Int.reduceToNat, Nat.reduceMul]
      refine W_split rfl (fun h3 => ?_) (fun h3 => ?_)
      · simp at h3
        have hy : x / 2 ^ 24 < 256 := by omega
        have hxy : x / 65536 / 256 = x / 2 ^ 24 := by omega
        obtain ⟨b, hb, hbn⟩ := tab_get _ hy
        have e1 : IntKind.u8.wrap ((x / 2 ^ 24 : Nat) : Int) = ((x / 2 ^ 24 : Nat) : Int) := by rw [wrap_u8]; omega
        have e2 : IntKind.i64.wrap ((bl8 (x / 2 ^ 24) : Nat) : Int) = ((bl8 (x / 2 ^ 24) : Nat) : Int) := by
          have := (bl8_bits hy).2.1
          rw [wrap_i64_of (by omega) (by omega)]
        have e3 := bits_end (n := 24) hL hy (by omega)
        simp only [go_sem, p32, p16, p8, q1, q2, q3, q4, q5, q6, hxy, e1, hb, hbn, e2, Int.toNat_natCast, Int.natCast_nonneg, ↓reduceIte, Nat.reduceEqDiff, Nat.reduceAdd, Nat.reduceLeDiff, reduceCtorEq, Nat.reduceLT, Int.reduceLT, Int.reduceLE, Int.reduceEq, Int.reduceToNat, Nat.reduceMul]
        refine wends (by first | exact Or.inl rfl | exact Or.inr rfl) ?_ (by first | rfl | simp [AV.ids, idsL])
        simp only [go_sem, r_bits_Len64, ↓reduceIte, Nat.reduceEqDiff, Nat.reduceAdd, Nat.reduceLeDiff, reduceCtorEq, Nat.reduceLT, Int.reduceLT, Int.reduceLE, Int.reduceEq, Int.reduceToNat, Nat.reduceMul]
        have := (bl8_bits hy).2.1
        rw [wrap_i64_of (by omega) (by omega)]
        simp only [Option.some.injEq, AV.tp.injEq, AV.ag.injEq, List.cons.injEq, AV.t.injEq, T.v.injEq, T.sl.injEq, Value.int.injEq, Value.bool.injEq, Value.string.injEq, decide_eq_decide, true_and, and_true]
        omega
      · simp at h3
        have hy : x / 2 ^ 16 < 256 := by omega
        have hxy : x / 65536 = x / 2 ^ 16 := by omega
        obtain ⟨b, hb, hbn⟩ := tab_get _ hy
        have e1 : IntKind.u8.wrap ((x / 2 ^ 16 : Nat) : Int) = ((x / 2 ^ 16 : Nat) : Int) := by rw [wrap_u8]; omega
        have e2 : IntKind.i64.wrap ((bl8 (x / 2 ^ 16) : Nat) : Int) = ((bl8 (x / 2 ^ 16) : Nat) : Int) := by
          have := (bl8_bits hy).2.1
          rw [wrap_i64_of (by omega) (by omega)]
        have e3 := bits_end (n := 16) hL hy (by omega)
        simp only [go_sem, p32, p16, p8, q1, q2, q3, q4, q5, q6, hxy, e1, hb, hbn, e2, Int.toNat_natCast, Int.natCast_nonneg, ↓reduceIte, Nat.reduceEqDiff, Nat.reduceAdd, Nat.reduceLeDiff, reduceCtorEq, Nat.reduceLT, Int.reduceLT, Int.reduceLE, Int.reduceEq, Int.reduceToNat, Nat.reduceMul]
        refine wends (by first | exact Or.inl rfl | exact Or.inr rfl) ?_ (by first | rfl | simp [AV.ids, idsL])
        simp only [go_sem, r_bits_Len64, ↓reduceIte, Nat.reduceEqDiff, Nat.reduceAdd, Nat.reduceLeDiff, reduceCtorEq, Nat.reduceLT, Int.reduceLT, Int.reduceLE, Int.reduceEq, Int.reduceToNat, Nat.reduceMul]
        have := (bl8_bits hy).2.1
        rw [wrap_i64_of (by omega) (by omega)]
        simp only [Option.some.injEq, AV.tp.injEq, AV.ag.injEq, List.cons.injEq, AV.t.injEq, T.v.injEq, T.sl.injEq, Value.int.injEq, Value.bool.injEq, Value.string.injEq, decide_eq_decide, true_and, and_true]
        omega
    · simp at h2
      simp only [go_sem, p32, p16, p8, q1, q2, q3, q4, q5, q6, ↓reduceIte, Nat.reduceEqDiff, Nat.reduceAdd, Nat.reduceLeDiff, reduceCtorEq, Nat.reduceLT, Int.reduceLT, Int.reduceLE, Int.reduceEq, Int.reduceToNat, Nat.reduceMul]
      refine W_split rfl (fun h3 => ?_) (fun h3 => ?_)
      · simp at h3
        have hy : x / 2 ^ 8 < 256 := by omega
        have hxy : x / 256 = x / 2 ^ 8 := by omega
        obtain ⟨b, hb, hbn⟩ := tab_get _ hy
        have e1 : IntKind.u8.wrap ((x / 2 ^ 8 : Nat) : Int) = ((x / 2 ^ 8 : Nat) : Int) := by rw [wrap_u8]; omega
        have e2 : IntKind.i64.wrap ((bl8 (x / 2 ^ 8) : Nat) : Int) = ((bl8 (x / 2 ^ 8) : Nat) : Int) := by
          have := (bl8_bits hy).2.1
          rw [wrap_i64_of (by omega) (by omega)]
        have e3 := bits_end (n := 8) hL hy (by omega)
        simp only [go_sem, p32, p16, p8, q1, q2, q3, q4, q5, q6, hxy, e1, hb, hbn, e2, Int.toNat_natCast, Int.natCast_nonneg, ↓reduceIte, Nat.reduceEqDiff, Nat.reduceAdd, Nat.reduceLeDiff, reduceCtorEq, Nat.reduceLT, Int.reduceLT, Int.reduceLE, Int.reduceEq, Int.reduceToNat, Nat.reduceMul]
        refine wends (by first | exact Or.inl rfl | exact Or.inr rfl) ?_ (by first | rfl | simp [AV.ids, idsL])
        simp only [go_sem, r_bits_Len64, ↓reduceIte, Nat.reduceEqDiff, Nat.reduceAdd, Nat.reduceLeDiff, reduceCtorEq, Nat.reduceLT, Int.reduceLT, Int.reduceLE, Int.reduceEq, Int.reduceToNat, Nat.reduceMul]
        have := (bl8_bits hy).2.1
        rw [wrap_i64_of (by omega) (by omega)]
        simp only [Option.some.injEq, AV.tp.injEq, AV.ag.injEq, List.cons.injEq, AV.t.injEq, T.v.injEq, T.sl.injEq, Value.int.injEq, Value.bool.injEq, Value.string.injEq, decide_eq_decide, true_and, and_true]
        omega
      · simp at h3
        have hy : x < 256 := by omega
        have hxy : (x : Nat) = x := rfl
        obtain ⟨b, hb, hbn⟩ := tab_get _ hy
        have e1 : IntKind.u8.wrap ((x : Nat) : Int) = ((x : Nat) : Int) := by rw [wrap_u8]; omega
        have e2 : IntKind.i64.wrap ((bl8 (x) : Nat) : Int) = ((bl8 (x) : Nat) : Int) := by
          have := (bl8_bits hy).2.1
          rw [wrap_i64_of (by omega) (by omega)]
        have e3 : bl8 x = L := bits_unique (bl8_bits hy).1 hL
        simp only [go_sem, p32, p16, p8, q1, q2, q3, q4, q5, q6, hxy, e1, hb, hbn, e2, Int.toNat_natCast, Int.natCast_nonneg, ↓reduceIte, Nat.reduceEqDiff, Nat.reduceAdd, Nat.reduceLeDiff, reduceCtorEq, Nat.reduceLT, Int.reduceLT, Int.reduceLE, Int.reduceEq, Int.reduceToNat, Nat.reduceMul]
        refine wends (by first | exact Or.inl rfl | exact Or.inr rfl) ?_ (by first | rfl | simp [AV.ids, idsL])
        simp only [go_sem, r_bits_Len64, ↓reduceIte, Nat.reduceEqDiff, Nat.reduceAdd, Nat.reduceLeDiff, reduceCtorEq, Nat.reduceLT, Int.reduceLT, Int.reduceLE, Int.reduceEq, Int.reduceToNat, Nat.reduceMul]
        have := (bl8_bits hy).2.1
        rw [wrap_i64_of (by omega) (by omega)]
        simp only [Option.some.injEq, AV.tp.injEq, AV.ag.injEq, List.cons.injEq, AV.t.injEq, T.v.injEq, T.sl.injEq, Value.int.injEq, Value.bool.injEq, Value.string.injEq, decide_eq_decide, true_and, and_true]
        omega

theorem f_bits_LeadingZeros64 (x L : Nat) (hx : x < 18446744073709551616) (hL : Bits x L) (h64 : L ≤ 64) : Meets Try.prog E0 n_bits_LeadingZeros64 [U x] [] (I (64 - L : Nat)) [] := by
  refine m_bits_LeadingZeros64 (by simp) (shut0 rfl) (shut0 rfl) (by simp) (by simp [keysOf]) ?_
  simp only [go_sem, s_bits_LeadingZeros64, ↓reduceIte, Nat.reduceEqDiff, Nat.reduceAdd, Nat.reduceLeDiff, reduceCtorEq, Nat.reduceLT, Int.reduceLT, Int.reduceLE, Int.reduceEq, Int.reduceToNat, Nat.reduceMul]
  refine Cl_plain (f_bits_Len64 x L hx hL) ?_
  simp only [go_sem, ↓reduceIte, Nat.reduceEqDiff, Nat.reduceAdd, Nat.reduceLeDiff, reduceCtorEq, Nat.reduceLT, Int.reduceLT, Int.reduceLE, Int.reduceEq, Int.reduceToNat, Nat.reduceMul]
  refine wends (by first | exact Or.inl rfl | exact Or.inr rfl) ?_ (by first | rfl | simp [AV.ids, idsL])
  simp only [go_sem, r_bits_LeadingZeros64, ↓reduceIte, Nat.reduceEqDiff, Nat.reduceAdd, Nat.reduceLeDiff, reduceCtorEq, Nat.reduceLT, Int.reduceLT, Int.reduceLE, Int.reduceEq, Int.reduceToNat, Nat.reduceMul]
  rw [wrap_i64_of (by omega) (by omega)]
  simp only [Option.some.injEq, AV.tp.injEq, AV.ag.injEq, List.cons.injEq, AV.t.injEq, T.v.injEq, T.sl.injEq, Value.int.injEq, Value.bool.injEq, Value.string.injEq, decide_eq_decide, true_and, and_true]
  omega

end Go.Proofs.Ytgablplpdocniaa
