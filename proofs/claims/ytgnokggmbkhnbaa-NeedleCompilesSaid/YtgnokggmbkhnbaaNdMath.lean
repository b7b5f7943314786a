/- Small patterns, in plain words. No statement of the seat is proved here. -/
import Derived.Test.YtgnokggmbkhnbaaStrMath
set_option linter.unusedSimpArgs false
set_option linter.unusedVariables false
namespace Go.Proofs.Ytgnokggmbkhnbaa
open Go Go.Sx

/-- Bytes as the bits of a number; its four words. -/
abbrev setL (n : Nat) : List AV := [U ((n % 18446744073709551616 : Nat) : Int), U ((n / 18446744073709551616 % 18446744073709551616 : Nat) : Int), U ((n / 340282366920938463463374607431768211456 % 18446744073709551616 : Nat) : Int), U ((n / (18446744073709551616 * 340282366920938463463374607431768211456) % 18446744073709551616 : Nat) : Int)]
abbrev setV (n : Nat) : AV := .ag (setL n)
abbrev full : Nat := 2 ^ 256 - 1

abbrev Item := Nat × Bool
abbrev itemV (i : Item) : AV := .ag (setL i.1 ++ [Bo i.2])
def itemT (i : Item) : List T := [.v (.int .u64 ((i.1 % 18446744073709551616 : Nat) : Int)), .v (.int .u64 ((i.1 / 18446744073709551616 % 18446744073709551616 : Nat) : Int)), .v (.int .u64 ((i.1 / 340282366920938463463374607431768211456 % 18446744073709551616 : Nat) : Int)), .v (.int .u64 ((i.1 / (18446744073709551616 * 340282366920938463463374607431768211456) % 18446744073709551616 : Nat) : Int)), .v (.bool i.2)]
abbrev itemsV (l : List Item) : AV := .t (.sl 5 (l.map itemT))
abbrev needleV (a b : Bool) (l : List Item) : AV := .ag [Bo a, Bo b, itemsV l]

/-- All bytes from one on, so many. -/
def addM (n b : Nat) : Nat → Nat
  | 0 => n
  | k + 1 => addM (n ||| 2 ^ b) (b + 1) k

def skipM (b : Nat) : List UInt8 → Bool × List UInt8
  | c :: r => if c.toNat = b then (true, r) else (false, c :: r)
  | [] => (false, [])

def rangedB : List UInt8 → Bool
  | d :: h :: _ => d.toNat == 45 && h.toNat != 93
  | _ => false

/-- The rest of a class: the bytes, whether it is one, what is left. -/
def classX : List UInt8 → Bool → Nat → Nat × Bool × List UInt8
  | [], _, n => (n, false, [])
  | c :: r, m, n => if c.toNat = 93 then (n, m, r) else
    match r with
    | [] => classX [] true (n ||| 2 ^ c.toNat)
    | [d] => classX [d] true (n ||| 2 ^ c.toNat)
    | d :: h :: r' => if d.toNat == 45 && h.toNat != 93 then (if h.toNat < c.toNat then (n, false, r') else classX r' true (addM n c.toNat (h.toNat + 1 - c.toNat))) else classX (d :: h :: r') true (n ||| 2 ^ c.toNat)

def cplM (n : Nat) : Nat := full - n

def classM (l : List UInt8) : Nat × Bool × List UInt8 :=
  (if (classX (skipM 94 l).2 false 0).2.1 && (skipM 94 l).1 then cplM (classX (skipM 94 l).2 false 0).1 else (classX (skipM 94 l).2 false 0).1, (classX (skipM 94 l).2 false 0).2.1, (classX (skipM 94 l).2 false 0).2.2)

def atomM : List UInt8 → Nat × Bool × List UInt8
  | [] => (0, false, [])
  | c :: r => if c.toNat = 94 ∨ c.toNat = 36 ∨ c.toNat = 42 ∨ c.toNat = 93 then (0, false, r) else if c.toNat = 46 then (full, true, r) else if c.toNat = 91 then classM r else if c.toNat = 92 then (match r with
    | [] => (1, false, [])
    | d :: r' => (2 ^ d.toNat, true, r')) else (2 ^ c.toNat, true, r)

/-- The items of a pattern; with fuel. -/
def itemsM : Nat → List UInt8 → List Item → Option (Bool × List Item)
  | 0, _, acc => some (false, acc)
  | _ + 1, [], acc => some (false, acc)
  | f + 1, c :: r, acc => if r = [] ∧ c.toNat = 36 then some (true, acc) else if (atomM (c :: r)).2.1 then itemsM f (skipM 42 (atomM (c :: r)).2.2).2 (acc ++ [((atomM (c :: r)).1, (skipM 42 (atomM (c :: r)).2.2).1)]) else none

def compM (l : List UInt8) : (Bool × Bool × List Item) × Int :=
  if 64 < l.length then ((false, false, []), 12) else
    match itemsM (l.length + 1) (skipM 94 l).2 [] with
    | none => ((false, false, []), 10)
    | some (e, is) => (((skipM 94 l).1, e, is), 0)

theorem classX_end (c : UInt8) (r : List UInt8) (m : Bool) (n : Nat) (h : c.toNat = 93) : classX (c :: r) m n = (n, m, r) := by
  rcases r with _ | ⟨d, _ | ⟨x, r⟩⟩ <;> simp [classX, h]

theorem classX_one (c : UInt8) (r : List UInt8) (m : Bool) (n : Nat) (h : ¬ c.toNat = 93) (hr : rangedB r = false) : classX (c :: r) m n = classX r true (n ||| 2 ^ c.toNat) := by
  rcases r with _ | ⟨d, _ | ⟨x, r⟩⟩
  · simp [classX, h]
  · simp [classX, h]
  · simp only [rangedB] at hr
    rw [classX, if_neg h]; simp only [hr]; rfl

theorem classX_range (c d x : UInt8) (r : List UInt8) (m : Bool) (n : Nat) (h : ¬ c.toNat = 93) (hr : rangedB (d :: x :: r) = true) : classX (c :: d :: x :: r) m n = if x.toNat < c.toNat then (n, false, r) else classX r true (addM n c.toNat (x.toNat + 1 - c.toNat)) := by
  simp only [rangedB] at hr
  rw [classX, if_neg h]; simp only [hr, if_true]

theorem ranged_shape {r : List UInt8} (h : rangedB r = true) : ∃ d x r', r = d :: x :: r' := by
  rcases r with _ | ⟨d, _ | ⟨x, r⟩⟩
  · simp [rangedB] at h
  · simp [rangedB] at h
  · exact ⟨d, x, r, rfl⟩

theorem addM_one (n b : Nat) : addM n b 1 = n ||| 2 ^ b := rfl

/-- A word of a number of four. -/
def word (n k : Nat) : Nat := n / 2 ^ (64 * k) % 2 ^ 64

theorem word_bit (n k i : Nat) (hi : i < 64) : (word n k).testBit i = n.testBit (64 * k + i) := by
  rw [word, Nat.testBit_mod_two_pow, Nat.testBit_div_two_pow]; simp [hi, Nat.add_comm]

theorem word_lt (n k : Nat) : word n k < 2 ^ 64 := Nat.mod_lt _ (by decide)

theorem word_eq {n m k : Nat} (h : ∀ i < 64, n.testBit (64 * k + i) = m.testBit (64 * k + i)) : word n k = word m k := by
  apply Nat.eq_of_testBit_eq
  intro i
  by_cases hi : i < 64
  · rw [word_bit _ _ _ hi, word_bit _ _ _ hi, h i hi]
  · rw [Nat.testBit_lt_two_pow (Nat.lt_of_lt_of_le (word_lt n k) (Nat.pow_le_pow_right (by decide) (by omega))), Nat.testBit_lt_two_pow (Nat.lt_of_lt_of_le (word_lt m k) (Nat.pow_le_pow_right (by decide) (by omega)))]

theorem word_or_same (n k b : Nat) (h : b / 64 = k) : word (n ||| 2 ^ b) k = word n k ||| 2 ^ (b % 64) := by
  apply Nat.eq_of_testBit_eq
  intro i
  by_cases hi : i < 64
  · rw [word_bit _ _ _ hi, Nat.testBit_or, Nat.testBit_or, word_bit _ _ _ hi, Nat.testBit_two_pow, Nat.testBit_two_pow]
    congr 1
    rw [decide_eq_decide]; omega
  · have h1 : word n k ||| 2 ^ (b % 64) < 2 ^ 64 := Nat.or_lt_two_pow (word_lt n k) (Nat.pow_lt_pow_right (by decide) (by omega))
    rw [Nat.testBit_lt_two_pow (Nat.lt_of_lt_of_le (word_lt _ k) (Nat.pow_le_pow_right (by decide) (by omega))), Nat.testBit_lt_two_pow (Nat.lt_of_lt_of_le h1 (Nat.pow_le_pow_right (by decide) (by omega)))]

theorem word_or_other (n k b : Nat) (h : b / 64 ≠ k) : word (n ||| 2 ^ b) k = word n k := by
  apply word_eq
  intro i hi
  rw [Nat.testBit_or, Nat.testBit_two_pow]
  have : ¬ b = 64 * k + i := by omega
  simp [this]

theorem word0 (n : Nat) : n % 18446744073709551616 = word n 0 := by simp [word]
theorem word1 (n : Nat) : n / 18446744073709551616 % 18446744073709551616 = word n 1 := rfl
theorem word2 (n : Nat) : n / 340282366920938463463374607431768211456 % 18446744073709551616 = word n 2 := rfl
theorem word3 (n : Nat) : n / (18446744073709551616 * 340282366920938463463374607431768211456) % 18446744073709551616 = word n 3 := rfl

theorem words_inj {n m : Nat} (hn : n < 2 ^ 256) (hm : m < 2 ^ 256) (h0 : word n 0 = word m 0) (h1 : word n 1 = word m 1) (h2 : word n 2 = word m 2) (h3 : word n 3 = word m 3) : n = m := by
  apply Nat.eq_of_testBit_eq
  intro i
  by_cases hi : i < 256
  · have key : ∀ k, word n k = word m k → i / 64 = k → n.testBit i = m.testBit i := by
      intro k hk hik
      have := word_bit n k (i % 64) (by omega)
      have h' := word_bit m k (i % 64) (by omega)
      rw [hk, h', show 64 * k + i % 64 = i by omega] at this
      exact this.symm
    have : i / 64 = 0 ∨ i / 64 = 1 ∨ i / 64 = 2 ∨ i / 64 = 3 := by omega
    rcases this with h | h | h | h
    · exact key 0 h0 h
    · exact key 1 h1 h
    · exact key 2 h2 h
    · exact key 3 h3 h
  · rw [Nat.testBit_lt_two_pow (Nat.lt_of_lt_of_le hn (Nat.pow_le_pow_right (by decide) (by omega))), Nat.testBit_lt_two_pow (Nat.lt_of_lt_of_le hm (Nat.pow_le_pow_right (by decide) (by omega)))]

theorem full_bit (i : Nat) (h : i < 256) : Nat.testBit full i = true := by
  rw [Nat.testBit_two_pow_sub_one]; simpa using h

theorem cpl_bit (n i : Nat) (hn : n < 2 ^ 256) (h : i < 256) : (cplM n).testBit i = !n.testBit i := by
  unfold cplM
  rw [Nat.sub_sub, Nat.add_comm 1 n, Nat.testBit_two_pow_sub_succ hn]
  simp [h]

theorem cpl_lt (n : Nat) : cplM n < 2 ^ 256 := by unfold cplM; exact Nat.lt_of_le_of_lt (Nat.sub_le _ _) (by decide)

theorem addM_lt : ∀ (k n b : Nat), n < 2 ^ 256 → b + k ≤ 256 → addM n b k < 2 ^ 256
  | 0, n, b, h, _ => h
  | k + 1, n, b, h, hb => addM_lt k _ _ (Nat.or_lt_two_pow h (Nat.pow_lt_pow_right (by decide) (by omega))) (by omega)

theorem addM_snoc : ∀ (k n b : Nat), addM n b (k + 1) = addM n b k ||| 2 ^ (b + k)
  | 0, n, b => rfl
  | k + 1, n, b => by
    rw [addM, addM_snoc k (n ||| 2 ^ b) (b + 1), addM]
    congr 2; omega

theorem addM_bit : ∀ (k n b i : Nat), (addM n b k).testBit i = (n.testBit i || (decide (b ≤ i) && decide (i < b + k)))
  | 0, n, b, i => by
    have : (decide (b ≤ i) && decide (i < b + 0)) = false := by simp
    simp only [addM, this, Bool.or_false]
  | k + 1, n, b, i => by
    rw [addM_snoc, Nat.testBit_or, addM_bit k n b i, Nat.testBit_two_pow, Bool.or_assoc]
    congr 1
    rw [Bool.eq_iff_iff]; simp; omega

theorem skip_suf (b : Nat) (l : List UInt8) : (skipM b l).2 <:+ l := by
  cases l with
  | nil => simp [skipM]
  | cons c r => simp only [skipM]; split
                · exact List.suffix_cons c r
                · exact List.suffix_refl _

theorem classX_suf : ∀ (k : Nat) (l : List UInt8) (m : Bool) (n : Nat), l.length ≤ k → (classX l m n).2.2 <:+ l
  | _, [], _, _, _ => by simp [classX]
  | 0, _ :: _, _, _, h => by simp at h
  | k + 1, c :: r, m, n, h => by
    by_cases h1 : c.toNat = 93
    · rw [classX_end c r m n h1]; exact List.suffix_cons c r
    · cases hr : rangedB r with
      | false => rw [classX_one c r m n h1 hr]; exact (classX_suf k r _ _ (by simpa using h)).trans (List.suffix_cons c r)
      | true =>
        obtain ⟨d, x, r', rfl⟩ := ranged_shape hr
        rw [classX_range c d x r' m n h1 hr]
        have hs : r' <:+ c :: d :: x :: r' := (List.suffix_cons x r').trans ((List.suffix_cons d _).trans (List.suffix_cons c _))
        split
        · exact hs
        · exact (classX_suf k r' _ _ (by simp at h; omega)).trans hs

theorem classX_lt : ∀ (k : Nat) (l : List UInt8) (m : Bool) (n : Nat), l.length ≤ k → n < 2 ^ 256 → (classX l m n).1 < 2 ^ 256
  | _, [], _, n, _, hn => by simpa [classX] using hn
  | 0, _ :: _, _, _, h, _ => by simp at h
  | k + 1, c :: r, m, n, h, hn => by
    have hc := u8_lt c
    by_cases h1 : c.toNat = 93
    · rw [classX_end c r m n h1]; exact hn
    · cases hr : rangedB r with
      | false => rw [classX_one c r m n h1 hr]; exact classX_lt k r _ _ (by simpa using h) (Nat.or_lt_two_pow hn (Nat.pow_lt_pow_right (by decide) hc))
      | true =>
        obtain ⟨d, x, r', rfl⟩ := ranged_shape hr
        have hx := u8_lt x
        rw [classX_range c d x r' m n h1 hr]
        split
        · exact hn
        · exact classX_lt k r' _ _ (by simp at h; omega) (addM_lt _ _ _ hn (by omega))

theorem classM_suf (l : List UInt8) : (classM l).2.2 <:+ l := (classX_suf _ _ _ _ (Nat.le_refl _)).trans (skip_suf 94 l)

theorem cpl_lt2 (n : Nat) : cplM n < 2 ^ 256 := cpl_lt n

theorem classM_lt (l : List UInt8) : (classM l).1 < 2 ^ 256 := by
  unfold classM
  simp only
  split
  · exact cpl_lt _
  · exact classX_lt _ _ _ _ (Nat.le_refl _) (Nat.two_pow_pos _)

theorem atomM_suf (c : UInt8) (r : List UInt8) : (atomM (c :: r)).2.2 <:+ r := by
  simp only [atomM]
  split
  · exact List.suffix_refl _
  split
  · exact List.suffix_refl _
  split
  · exact classM_suf r
  split
  · cases r with
    | nil => exact List.suffix_refl _
    | cons d r => exact List.suffix_cons d r
  · exact List.suffix_refl _

theorem atomM_lt (l : List UInt8) : (atomM l).1 < 2 ^ 256 := by
  cases l with
  | nil => exact Nat.two_pow_pos _
  | cons c r =>
    have hc := u8_lt c
    have pw : ∀ d : UInt8, 2 ^ d.toNat < 2 ^ 256 := fun d => Nat.pow_lt_pow_right (by decide) (u8_lt d)
    simp only [atomM]
    split
    · exact Nat.two_pow_pos _
    split
    · show full < 2 ^ 256
      decide
    split
    · exact classM_lt r
    split
    · cases r with
      | nil => show 1 < 2 ^ 256
               decide
      | cons d r => exact pw d
    · exact pw c

theorem full_add : addM 0 0 256 = full := by
  apply words_inj (addM_lt _ _ _ (Nat.two_pow_pos _) (by decide)) (by decide)
  all_goals
    apply word_eq
    intro i hi
    rw [addM_bit, full_bit _ (by omega)]
    simp; omega

theorem one_add (b : Nat) : addM 0 b 1 = 2 ^ b := by simp [addM]

theorem itemsM_len : ∀ (f : Nat) (l : List UInt8) (acc : List Item) (e : Bool) (is : List Item), itemsM f l acc = some (e, is) → is.length ≤ acc.length + l.length
  | 0, l, acc, e, is, h => by simp only [itemsM, Option.some.injEq, Prod.mk.injEq] at h; rw [← h.2]; omega
  | f + 1, [], acc, e, is, h => by simp only [itemsM, Option.some.injEq, Prod.mk.injEq] at h; rw [← h.2]; omega
  | f + 1, c :: r, acc, e, is, h => by
    simp only [itemsM] at h
    split at h
    · simp only [Option.some.injEq, Prod.mk.injEq] at h; rw [← h.2]; omega
    · split at h
      · have := itemsM_len f _ _ e is h
        have h1 := (skip_suf 42 (atomM (c :: r)).2.2).length_le
        have h2 := (atomM_suf c r).length_le
        simp at this ⊢; omega
      · cases h

theorem compM_len (l : List UInt8) : (compM l).1.2.2.length ≤ 64 := by
  unfold compM
  split
  · simp
  · cases h : itemsM (l.length + 1) (skipM 94 l).2 [] with
    | none => simp
    | some x =>
      obtain ⟨e, is⟩ := x
      have h1 := itemsM_len _ _ _ _ _ h
      have h2 := (skip_suf 94 l).length_le
      simp at h1 ⊢; omega

end Go.Proofs.Ytgnokggmbkhnbaa
