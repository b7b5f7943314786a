/- Numbers and units of a span's text. No statement of the seat is proved here. -/
import Derived.Test.YtcadhlakhdndjaaDoorStrMath
import Derived.Test.YtcadhlakhdndjaaDoorSpSeq
import Derived.Test.YtcadhlakhdndjaaDoorSxH
set_option linter.unusedSimpArgs false
set_option linter.unusedVariables false
namespace Go.Proofs.YtcadhlakhdndjaaDoor
open Go Go.Sx

/-- Seconds of a unit; 0: there is no such one. -/
def rtUnit (c : Nat) : Int := if c = 115 then 1 else if c = 109 then 60 else if c = 104 then 3600 else if c = 100 then 86400 else if c = 119 then 604800 else if c = 121 then 31536000 else 0

theorem rtUnit_le (c : Nat) : 0 ≤ rtUnit c ∧ rtUnit c ≤ 31536000 := by
  unfold rtUnit
  repeat' split
  all_goals omega

abbrev B8 (c : Nat) : AV := .t (.v (.int .u8 (c : Int)))

theorem f_ref10_unit (c : Nat) (hc : c < 256) : Meets Tryd.prog E0 n_ref10_unit [B8 c] [] (I (rtUnit c)) [] := by
  refine m_ref10_unit (by simp) (shut0 rfl) (shut0 rfl) (by simp) (by simp [keysOf]) ?_
  repeat' (first | (simp only [go_sem, s_ref10_unit, ↓reduceIte, Nat.reduceEqDiff, Nat.reduceAdd, Nat.reduceLeDiff, reduceCtorEq, Nat.reduceLT, Int.reduceLT, Int.reduceLE, Int.reduceEq, Int.reduceToNat, Nat.reduceMul, *]) | (simp (disch := omega) only [s_ref10_unit, wrap_i64_of, i64_quo, i64_rem, sdiv, smod]) | ((with_reducible refine W_split (by with_unfolding_all exact rfl) (fun hsp => ?_) (fun hsp => ?_)) <;> (try simp only [Bool.not_true, Bool.not_false, decide_eq_true_eq, decide_eq_false_iff_not, Bool.not_eq_true', Bool.not_eq_false', not_false_eq_true] at hsp)) | ((with_reducible refine R_split (by with_unfolding_all exact rfl) (fun hsp => ?_) (fun hsp => ?_)) <;> (try simp only [Bool.not_true, Bool.not_false, decide_eq_true_eq, decide_eq_false_iff_not, Bool.not_eq_true', Bool.not_eq_false', not_false_eq_true] at hsp)) | (with_reducible refine R_fin (by repeat' (first | exact okp0 | refine okp rfl rfl rfl ?_)) ?_))
  all_goals
    refine wends (by first | exact Or.inl rfl | exact Or.inr rfl) ?_ (by first | rfl | simp [AV.ids, idsL])
    simp only [go_sem, r_ref10_unit, ↓reduceIte, Nat.reduceEqDiff, Nat.reduceAdd, Nat.reduceLeDiff, reduceCtorEq, Nat.reduceLT, Int.reduceLT, Int.reduceLE, Int.reduceEq, Int.reduceToNat, Nat.reduceMul]
  all_goals
    unfold rtUnit
    repeat' split
  all_goals first | rfl | (exfalso; simp_all; done) | (exfalso; simp at *; omega)

/-- Is it a digit? -/
def digB (b : UInt8) : Bool := decide (48 ≤ b.toNat) && decide (b.toNat ≤ 57)

/-- Digits that a text begins with, up to 2^40 and one; what is left. -/
def rtNum (n : Nat) : List UInt8 → Nat × List UInt8
  | [] => (n, [])
  | b :: l => if digB b then rtNum (min (n * 10 + (b.toNat - 48)) 1099511627777) l else (n, b :: l)

theorem rtNum_le : ∀ (l : List UInt8) (n : Nat), n ≤ 1099511627777 → (rtNum n l).1 ≤ 1099511627777 ∧ (rtNum n l).2.length ≤ l.length
  | [], n, h => by simp [rtNum, h]
  | b :: l, n, h => by
    simp only [rtNum]
    split
    · have := rtNum_le l (min (n * 10 + (b.toNat - 48)) 1099511627777) (Nat.min_le_right ..)
      simp only [List.length_cons]; omega
    · simp [h]

theorem f_ref10_number (s : ByteArray) (hs : s.size ≤ 4611686018427387904) : Meets Tryd.prog E0 n_ref10_number [Str s] [] (.tp [I ((rtNum 0 s.data.toList).1 : Nat), I ((s.size - (rtNum 0 s.data.toList).2.length : Nat))]) [] := by
  refine m_ref10_number (by simp) (shut0 rfl) (shut0 rfl) (by simp) (by simp [keysOf]) ?_
  simp only [go_sem, s_ref10_number, ↓reduceIte, Nat.reduceEqDiff, Nat.reduceAdd, Nat.reduceLeDiff, reduceCtorEq, Nat.reduceLT, Int.reduceLT, Int.reduceLE, Int.reduceEq, Int.reduceToNat, Nat.reduceMul]
  refine W_loop (fun i : Nat × List UInt8 => i.2.length) (fun i => Suf s i.2 ∧ i.1 ≤ 1099511627777 ∧ rtNum i.1 i.2 = rtNum 0 s.data.toList)
    (fun i => [(0, Str s), (4, I (i.1 : Nat)), (5, I ((s.size - i.2.length : Nat)))]) (fun _ => []) (0, s.data.toList) ⟨Suf.all s, by omega, rfl⟩ ?_ ?_
  · rw [ba_len, Nat.sub_self]
    exact (subL [] [] (by simp [envS, go_sem, wkV, wkL, AV.ids, idsL, keysOf, ren, stoOf, slTrees, AV.asOwn, rowPart, AV.isNil] <;> assumption) (by simp [stoS, go_sem, wkV, wkL, wkO, AV.ids, Ob.ids, idsL, keysOf, ren, AV.one, stoOf, slTrees, AV.asOwn, rowPart, AV.isNil] <;> assumption) (by simp [keysOf, ren]) (by simp [stoOf, keysOf, ren]) (by simp [keysOf, ren]) (by simp [keysOf, ren]))
  · rintro ⟨n, rest⟩ ⟨hsuf, hn, hnum⟩
    have hl := hsuf.len
    have hg := hsuf.get 0
    simp only [Nat.add_zero] at hg
    cases rest with
    | nil =>
      simp only [List.length_nil, Nat.sub_zero]
      have d1 : decide (s.size < s.size) = false := by simp
      simp only [go_sem, d1, ↓reduceIte, Nat.reduceEqDiff, Nat.reduceAdd, Nat.reduceLeDiff, reduceCtorEq, Nat.reduceLT, Int.reduceLT, Int.reduceLE, Int.reduceEq, Int.reduceToNat, Nat.reduceMul]
      refine wends (by first | exact Or.inl rfl | exact Or.inr rfl) ?_ (by first | rfl | simp [AV.ids, idsL])
      simp only [go_sem, r_ref10_number, ↓reduceIte, Nat.reduceEqDiff, Nat.reduceAdd, Nat.reduceLeDiff, reduceCtorEq, Nat.reduceLT, Int.reduceLT, Int.reduceLE, Int.reduceEq, Int.reduceToNat, Nat.reduceMul]
      rw [← hnum]
      simp [rtNum]
    | cons b l =>
      simp only [List.length_cons] at hl hg ⊢
      obtain ⟨p, hp⟩ : ∃ p, s.size - (l.length + 1) = p := ⟨_, rfl⟩
      rw [hp] at hg ⊢
      have d1 : decide (p < s.size) = true := by simp; omega
      have hb := u8_lt b
      cases h1 : decide (48 ≤ b.toNat)
      · simp only [go_sem, d1, hg, h1, ↓reduceIte, Nat.reduceEqDiff, Nat.reduceAdd, Nat.reduceLeDiff, reduceCtorEq, Nat.reduceLT, Int.reduceLT, Int.reduceLE, Int.reduceEq, Int.reduceToNat, Nat.reduceMul]
        refine wends (by first | exact Or.inl rfl | exact Or.inr rfl) ?_ (by first | rfl | simp [AV.ids, idsL])
        simp only [go_sem, r_ref10_number, ↓reduceIte, Nat.reduceEqDiff, Nat.reduceAdd, Nat.reduceLeDiff, reduceCtorEq, Nat.reduceLT, Int.reduceLT, Int.reduceLE, Int.reduceEq, Int.reduceToNat, Nat.reduceMul]
        rw [← hnum]
        simp [rtNum, digB, h1, hp]
      · cases h2 : decide (b.toNat ≤ 57)
        · simp only [go_sem, d1, hg, h1, h2, ↓reduceIte, Nat.reduceEqDiff, Nat.reduceAdd, Nat.reduceLeDiff, reduceCtorEq, Nat.reduceLT, Int.reduceLT, Int.reduceLE, Int.reduceEq, Int.reduceToNat, Nat.reduceMul]
          refine wends (by first | exact Or.inl rfl | exact Or.inr rfl) ?_ (by first | rfl | simp [AV.ids, idsL])
          simp only [go_sem, r_ref10_number, ↓reduceIte, Nat.reduceEqDiff, Nat.reduceAdd, Nat.reduceLeDiff, reduceCtorEq, Nat.reduceLT, Int.reduceLT, Int.reduceLE, Int.reduceEq, Int.reduceToNat, Nat.reduceMul]
          rw [← hnum]
          simp [rtNum, digB, h1, h2, hp]
        · simp at h1 h2
          have d2 : decide (48 ≤ b.toNat) = true := by simpa using h1
          have d3 : decide (b.toNat ≤ 57) = true := by simpa using h2
          have e1 : min (IntKind.i64.wrap (IntKind.i64.wrap ((n : Int) * 10) + IntKind.i64.wrap (((b.toNat + 256 - 48 % 256) % 256 : Nat) : Int))) 1099511627777 = ((min (n * 10 + (b.toNat - 48)) 1099511627777 : Nat) : Int) := by
            simp only at hn
            rw [show (b.toNat + 256 - 48 % 256) % 256 = b.toNat - 48 by omega, wrap_i64_of (n := (n : Int) * 10) (by omega) (by omega), wrap_i64_of (n := ((b.toNat - 48 : Nat) : Int)) (by omega) (by omega), wrap_i64_of (by omega) (by omega)]
            omega
          have e2 : IntKind.i64.wrap ((p : Int) + 1) = ((s.size - l.length : Nat) : Int) := by rw [wrap_i64_of (by omega) (by omega)]; omega
          simp only [go_sem, d1, hg, d2, d3, e1, e2, ↓reduceIte, Nat.reduceEqDiff, Nat.reduceAdd, Nat.reduceLeDiff, reduceCtorEq, Nat.reduceLT, Int.reduceLT, Int.reduceLE, Int.reduceEq, Int.reduceToNat, Nat.reduceMul]
          refine rd_of (min (n * 10 + (b.toNat - 48)) 1099511627777, l) (by simp) ⟨hsuf.tail, Nat.min_le_right .., ?_⟩ ?_
          · rw [← hnum]; simp [rtNum, digB, d2, d3]
          · exact (subL [] [] (by simp [envS, go_sem, wkV, wkL, AV.ids, idsL, keysOf, ren, stoOf, slTrees, AV.asOwn, rowPart, AV.isNil] <;> assumption) (by simp [stoS, go_sem, wkV, wkL, wkO, AV.ids, Ob.ids, idsL, keysOf, ren, AV.one, stoOf, slTrees, AV.asOwn, rowPart, AV.isNil] <;> assumption) (by simp [keysOf, ren]) (by simp [stoOf, keysOf, ren]) (by simp [keysOf, ren]) (by simp [keysOf, ren]))

end Go.Proofs.YtcadhlakhdndjaaDoor
