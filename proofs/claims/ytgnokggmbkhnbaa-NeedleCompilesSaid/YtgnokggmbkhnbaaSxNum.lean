/- Unsigned numbers as naturals: what the operations answer. No statement of a seat is proved here. -/
import Derived.Test.YtgnokggmbkhnbaaSxRun
set_option linter.unusedSimpArgs false
set_option linter.unusedVariables false
namespace Go.Sx

/-- Kinds without a sign. -/
def modU : IntKind → Nat
  | .u8 => 256
  | .u16 => 65536
  | .u32 => 4294967296
  | _ => 18446744073709551616

theorem wrap_u64 (n : Int) : IntKind.u64.wrap n = n % 18446744073709551616 := by simp [IntKind.wrap, IntKind.bits, IntKind.signed]
theorem wrap_u8 (n : Int) : IntKind.u8.wrap n = n % 256 := by simp [IntKind.wrap, IntKind.bits, IntKind.signed]
theorem wrap_u32 (n : Int) : IntKind.u32.wrap n = n % 4294967296 := by simp [IntKind.wrap, IntKind.bits, IntKind.signed]
theorem wrap_i64 (n : Int) : IntKind.i64.wrap n = if n % 18446744073709551616 ≥ 9223372036854775808 then n % 18446744073709551616 - 18446744073709551616 else n % 18446744073709551616 := by simp [IntKind.wrap, IntKind.bits, IntKind.signed]
theorem wrap_i64_of {n : Int} (h1 : -9223372036854775808 ≤ n) (h2 : n < 9223372036854775808) : IntKind.i64.wrap n = n := by rw [wrap_i64]; split <;> omega

theorem u64_wrap_nat (n : Nat) : IntKind.u64.wrap (n : Int) = ((n % 18446744073709551616 : Nat) : Int) := by rw [wrap_u64]; omega

theorem u64_add (a b : Nat) : binInt .add .u64 a b = some (.int .u64 ((a + b) % 18446744073709551616 : Nat)) := by
  simp only [binInt]; rw [← Int.natCast_add, u64_wrap_nat]
theorem u64_mul (a b : Nat) : binInt .mul .u64 a b = some (.int .u64 ((a * b) % 18446744073709551616 : Nat)) := by
  simp only [binInt]; rw [← Int.natCast_mul, u64_wrap_nat]
theorem u64_sub (a b : Nat) : binInt .sub .u64 a b = some (.int .u64 ((a + 18446744073709551616 - b % 18446744073709551616) % 18446744073709551616 : Nat)) := by
  simp only [binInt]; rw [wrap_u64]
  congr 2
  omega
theorem u64_quo {a b : Nat} (h : ¬ b = 0) : binInt .quo .u64 a b = some (.int .u64 (a / b % 18446744073709551616 : Nat)) := by
  have hb : ¬ ((b : Int) = 0) := by omega
  simp only [binInt, if_neg hb]
  rw [← Int.ofNat_tdiv, u64_wrap_nat]
theorem u64_rem {a b : Nat} (h : ¬ b = 0) : binInt .rem .u64 a b = some (.int .u64 (a % b : Nat)) := by
  have hb : ¬ ((b : Int) = 0) := by omega
  simp only [binInt, if_neg hb]
  rw [← Int.ofNat_tmod]
theorem bv_nat (a : Nat) : BitVec.ofInt 64 (a : Int) = BitVec.ofNat 64 a := by
  apply BitVec.eq_of_toNat_eq; simp
theorem u64_and (a b : Nat) : binInt .and .u64 a b = some (.int .u64 ((a % 18446744073709551616) &&& (b % 18446744073709551616) : Nat)) := by
  show some (Value.int .u64 (IntKind.u64.wrap ((BitVec.ofInt 64 (a : Int) &&& BitVec.ofInt 64 (b : Int)).toNat))) = _
  rw [bv_nat, bv_nat, u64_wrap_nat]
  congr 3
  rw [BitVec.toNat_and, BitVec.toNat_ofNat, BitVec.toNat_ofNat]
  exact Nat.mod_eq_of_lt (Nat.and_lt_two_pow (n := 64) _ (Nat.mod_lt _ (by decide)))
theorem u64_or (a b : Nat) : binInt .or .u64 a b = some (.int .u64 ((a % 18446744073709551616) ||| (b % 18446744073709551616) : Nat)) := by
  show some (Value.int .u64 (IntKind.u64.wrap ((BitVec.ofInt 64 (a : Int) ||| BitVec.ofInt 64 (b : Int)).toNat))) = _
  rw [bv_nat, bv_nat, u64_wrap_nat]
  congr 3
  rw [BitVec.toNat_or, BitVec.toNat_ofNat, BitVec.toNat_ofNat]
  exact Nat.mod_eq_of_lt (Nat.or_lt_two_pow (n := 64) (Nat.mod_lt _ (by decide)) (Nat.mod_lt _ (by decide)))
theorem u64_xor (a b : Nat) : binInt .xor .u64 a b = some (.int .u64 ((a % 18446744073709551616) ^^^ (b % 18446744073709551616) : Nat)) := by
  show some (Value.int .u64 (IntKind.u64.wrap ((BitVec.ofInt 64 (a : Int) ^^^ BitVec.ofInt 64 (b : Int)).toNat))) = _
  rw [bv_nat, bv_nat, u64_wrap_nat]
  congr 3
  rw [BitVec.toNat_xor, BitVec.toNat_ofNat, BitVec.toNat_ofNat]
  exact Nat.mod_eq_of_lt (Nat.xor_lt_two_pow (n := 64) (Nat.mod_lt _ (by decide)) (Nat.mod_lt _ (by decide)))
theorem nn (n : Nat) : ¬ ((n : Int) < 0) := by omega
theorem u64_shl (a s : Nat) : binShift .shl .u64 a s = some (.int .u64 ((a * 2 ^ (min s 64)) % 18446744073709551616 : Nat)) := by
  simp only [binShift, if_neg (nn s), IntKind.bits, Int.toNat_natCast]
  rw [show ((a : Int) * 2 ^ (min s 64)) = ((a * 2 ^ (min s 64) : Nat) : Int) by simp, u64_wrap_nat]
theorem u64_shr (a s : Nat) : binShift .shr .u64 a s = some (.int .u64 (a / 2 ^ (min s 64) : Nat)) := by
  simp only [binShift, if_neg (nn s), IntKind.bits, Int.toNat_natCast]
  rw [show ((2 : Int) ^ (min s 64)) = ((2 ^ (min s 64) : Nat) : Int) by simp]
  rw [Int.fdiv_eq_ediv_of_nonneg _ (Int.natCast_nonneg _), ← Int.natCast_ediv]
theorem un_lss (k : IntKind) (a b : Nat) : binInt .lss k a b = some (.bool (decide (a < b))) := by simp [binInt]
theorem un_leq (k : IntKind) (a b : Nat) : binInt .leq k a b = some (.bool (decide (a ≤ b))) := by simp [binInt]
theorem un_gtr (k : IntKind) (a b : Nat) : binInt .gtr k a b = some (.bool (decide (b < a))) := by simp [binInt]
theorem un_geq (k : IntKind) (a b : Nat) : binInt .geq k a b = some (.bool (decide (b ≤ a))) := by simp [binInt]
theorem beq_nat (a b : Nat) : ((a : Int) == (b : Int)) = decide (a = b) := by
  rw [Bool.eq_iff_iff]; simp; omega
theorem un_eql (k : IntKind) (a b : Nat) : binInt .eql k a b = some (.bool (decide (a = b))) := by
  simp only [binInt, beq_nat]
theorem un_neq (k : IntKind) (a b : Nat) : binInt .neq k a b = some (.bool (!decide (a = b))) := by
  simp only [binInt, bne, beq_nat]

/-- Numbers with a sign: as they are. -/
theorem i64_add (a b : Int) : binInt .add .i64 a b = some (.int .i64 (IntKind.i64.wrap (a + b))) := rfl
theorem i64_sub (a b : Int) : binInt .sub .i64 a b = some (.int .i64 (IntKind.i64.wrap (a - b))) := rfl
theorem i64_mul (a b : Int) : binInt .mul .i64 a b = some (.int .i64 (IntKind.i64.wrap (a * b))) := rfl
theorem i64_quo {a b : Int} (h : ¬ b = 0) : binInt .quo .i64 a b = some (.int .i64 (IntKind.i64.wrap (a.tdiv b))) := by simp [binInt, h]
theorem i64_rem {a b : Int} (h : ¬ b = 0) : binInt .rem .i64 a b = some (.int .i64 (a.tmod b)) := by simp [binInt, h]
theorem i64_lss (a b : Int) : binInt .lss .i64 a b = some (.bool (decide (a < b))) := rfl
theorem i64_leq (a b : Int) : binInt .leq .i64 a b = some (.bool (decide (a ≤ b))) := rfl
theorem i64_gtr (a b : Int) : binInt .gtr .i64 a b = some (.bool (decide (b < a))) := rfl
theorem i64_geq (a b : Int) : binInt .geq .i64 a b = some (.bool (decide (b ≤ a))) := rfl
theorem i64_eql (a b : Int) : binInt .eql .i64 a b = some (.bool (decide (a = b))) := rfl
theorem i64_neq (a b : Int) : binInt .neq .i64 a b = some (.bool (!decide (a = b))) := rfl

theorem u8_wrap_nat (n : Nat) : IntKind.u8.wrap (n : Int) = ((n % 256 : Nat) : Int) := by rw [wrap_u8]; omega
theorem u8_shr (a s : Nat) : binShift .shr .u8 a s = some (.int .u8 (a / 2 ^ (min s 8) : Nat)) := by
  simp only [binShift, if_neg (nn s), IntKind.bits, Int.toNat_natCast]
  rw [show ((2 : Int) ^ (min s 8)) = ((2 ^ (min s 8) : Nat) : Int) by simp]
  rw [Int.fdiv_eq_ediv_of_nonneg _ (Int.natCast_nonneg _), ← Int.natCast_ediv]
theorem i64_shr_nat (a s : Nat) : binShift .shr .i64 a s = some (.int .i64 (a / 2 ^ (min s 64) : Nat)) := by
  simp only [binShift, if_neg (nn s), IntKind.bits, Int.toNat_natCast]
  rw [show ((2 : Int) ^ (min s 64)) = ((2 ^ (min s 64) : Nat) : Int) by simp]
  rw [Int.fdiv_eq_ediv_of_nonneg _ (Int.natCast_nonneg _), ← Int.natCast_ediv]
theorem bv_nat8 (a : Nat) : BitVec.ofInt 8 (a : Int) = BitVec.ofNat 8 a := by
  apply BitVec.eq_of_toNat_eq; simp
theorem u8_and (a b : Nat) : binInt .and .u8 a b = some (.int .u8 ((a % 256) &&& (b % 256) : Nat)) := by
  show some (Value.int .u8 (IntKind.u8.wrap ((BitVec.ofInt 8 (a : Int) &&& BitVec.ofInt 8 (b : Int)).toNat))) = _
  rw [bv_nat8, bv_nat8, u8_wrap_nat]
  congr 3
  rw [BitVec.toNat_and, BitVec.toNat_ofNat, BitVec.toNat_ofNat]
  exact Nat.mod_eq_of_lt (Nat.and_lt_two_pow (n := 8) _ (Nat.mod_lt _ (by decide)))
theorem u8_or (a b : Nat) : binInt .or .u8 a b = some (.int .u8 ((a % 256) ||| (b % 256) : Nat)) := by
  show some (Value.int .u8 (IntKind.u8.wrap ((BitVec.ofInt 8 (a : Int) ||| BitVec.ofInt 8 (b : Int)).toNat))) = _
  rw [bv_nat8, bv_nat8, u8_wrap_nat]
  congr 3
  rw [BitVec.toNat_or, BitVec.toNat_ofNat, BitVec.toNat_ofNat]
  exact Nat.mod_eq_of_lt (Nat.or_lt_two_pow (n := 8) (Nat.mod_lt _ (by decide)) (Nat.mod_lt _ (by decide)))
theorem u8_add (a b : Nat) : binInt .add .u8 a b = some (.int .u8 ((a + b) % 256 : Nat)) := by
  simp only [binInt]; rw [← Int.natCast_add, u8_wrap_nat]
theorem u8_sub (a b : Nat) : binInt .sub .u8 a b = some (.int .u8 ((a + 256 - b % 256) % 256 : Nat)) := by
  simp only [binInt]; rw [wrap_u8]
  congr 2
  omega
theorem u8_quo {a b : Nat} (h : ¬ b = 0) : binInt .quo .u8 a b = some (.int .u8 (a / b % 256 : Nat)) := by
  have hb : ¬ ((b : Int) = 0) := by omega
  simp only [binInt, if_neg hb]
  rw [← Int.ofNat_tdiv, u8_wrap_nat]
theorem u8_rem {a b : Nat} (h : ¬ b = 0) : binInt .rem .u8 a b = some (.int .u8 (a % b : Nat)) := by
  have hb : ¬ ((b : Int) = 0) := by omega
  simp only [binInt, if_neg hb]
  rw [← Int.ofNat_tmod]
/-- And, of two that are not below zero. -/
theorem i64_and_nat {a b : Nat} (ha : a < 9223372036854775808) (hb : b < 9223372036854775808) : binInt .and .i64 a b = some (.int .i64 ((a &&& b : Nat) : Int)) := by
  show some (Value.int .i64 (IntKind.i64.wrap ((BitVec.ofInt 64 (a : Int) &&& BitVec.ofInt 64 (b : Int)).toNat))) = _
  rw [bv_nat, bv_nat]
  have h : (BitVec.ofNat 64 a &&& BitVec.ofNat 64 b).toNat = a &&& b := by
    rw [BitVec.toNat_and, BitVec.toNat_ofNat, BitVec.toNat_ofNat, Nat.mod_eq_of_lt (by omega), Nat.mod_eq_of_lt (by omega)]
  have h2 : a &&& b ≤ a := Nat.and_le_left
  rw [h, wrap_i64_of (by omega) (by omega)]

theorem sdiv {a b : Int} (h : 0 ≤ a) : a.tdiv b = a / b := Int.tdiv_eq_ediv_of_nonneg h
theorem smod {a b : Int} (h : 0 ≤ a) : a.tmod b = a % b := Int.tmod_eq_emod_of_nonneg h

theorem beq_dec (a b : Int) : (a == b) = decide (a = b) := rfl

attribute [go_sem] u8_shr i64_shr_nat u8_and u8_or u8_add u8_sub u8_quo u8_rem
attribute [go_sem] u64_add u64_mul u64_sub u64_and u64_or u64_xor u64_shl u64_shr un_lss un_leq un_gtr un_geq un_eql un_neq u64_quo u64_rem
  i64_add i64_sub i64_mul i64_quo i64_rem i64_lss i64_leq i64_gtr i64_geq i64_eql i64_neq beq_nat

end Go.Sx
