/- Numerals, the document's way. No statement of the seat is proved here. -/
import Derived.Test.YtcadhlakhdndjaaDoorRtSplit2
import Derived.Test.YtcadhlakhdndjaaDoorSxH
import Derived.Lib.ItoaNum
set_option linter.unusedSimpArgs false
set_option linter.unusedVariables false
namespace Go.Proofs.YtcadhlakhdndjaaDoor
open Go Go.Sx

theorem dec_small {n : Nat} (h : n < 10) : Lib.decDigits n = [UInt8.ofNat (48 + n)] := by rw [Lib.decDigits, dif_pos h]
theorem dec_big {n : Nat} (h : ¬ n < 10) : Lib.decDigits n = Lib.decDigits (n / 10) ++ [UInt8.ofNat (48 + n % 10)] := by rw [Lib.decDigits, dif_neg h]

theorem dec_len (n : Nat) : (Lib.decDigits n).length ≤ n + 1 ∧ 1 ≤ (Lib.decDigits n).length := by
  induction n using Nat.strongRecOn with
  | _ n ih =>
    by_cases h : n < 10
    · rw [dec_small h]; simp
    · rw [dec_big h]
      have := ih (n / 10) (by omega)
      simp only [List.length_append, List.length_cons, List.length_nil]
      omega

theorem one_digit (r : Nat) (h : r < 10) : (bs [48, 49, 50, 51, 52, 53, 54, 55, 56, 57]).extract r (r + 1) = toB [UInt8.ofNat (48 + r)] := by
  refine extract_one ?_
  rw [ba_get]
  have := (by decide : ∀ r : Fin 10, ([48, 49, 50, 51, 52, 53, 54, 55, 56, 57] : List UInt8)[r.1]? = some (UInt8.ofNat (48 + r.1))) ⟨r, h⟩
  simpa [bs] using this

theorem toB_cons (a : UInt8) (l : List UInt8) : toB [a] ++ toB l = toB (a :: l) := by
  apply bytes_ext
  simp [toB]

theorem toB_append (a l : List UInt8) : toB a ++ toB l = toB (a ++ l) := by
  apply bytes_ext
  simp [toB]

theorem strT (l : List UInt8) : binStr .eql (toB l) (bs []) = some (.bool (l.isEmpty)) := by
  have hn : (bs []).toList = [] := by rw [Lib.toList_data]; rfl
  simp only [binStr]
  congr 2
  rw [hn, Lib.toList_data, toB_data]
  cases l <;> rfl

theorem addT (a l : List UInt8) (h : a.length + l.length ≤ 9223372036854775807) : binStr .add (toB a) (toB l) = some (.string (toB (a ++ l))) := by
  have e1 : (toB a).size = a.length := rfl
  have e2 : (toB l).size = l.length := rfl
  have em : IntKind.i64.max = 9223372036854775807 := rfl
  simp only [binStr, e1, e2, em]
  rw [if_neg (by omega), toB_append]

/-- What is left of a number, and what is written of it. -/
def digInv (n0 : Nat) (i : Nat × List UInt8) : Prop := (i.2 = [] ∧ i.1 = n0) ∨ (i.2 ≠ [] ∧ Lib.decDigits n0 = (if i.1 = 0 then [] else Lib.decDigits i.1) ++ i.2)

theorem digInv_step {n0 n : Nat} {l : List UInt8} (h : digInv n0 (n, l)) (hgo : n ≠ 0 ∨ l = []) : digInv n0 (n / 10, UInt8.ofNat (48 + n % 10) :: l) := by
  right
  refine ⟨by simp, ?_⟩
  simp only
  rcases h with ⟨h1, h2⟩ | ⟨h1, h2⟩
  · simp only at h1 h2
    subst h1 h2
    by_cases hs : n < 10
    · rw [if_pos (by omega), dec_small hs, Nat.mod_eq_of_lt hs]; rfl
    · rw [if_neg (by omega), dec_big hs]
  · simp only at h1 h2
    have hn : n ≠ 0 := by rcases hgo with h | h; exact h; exact absurd h h1
    rw [h2, if_neg hn]
    by_cases hs : n < 10
    · rw [if_pos (by omega), dec_small hs, Nat.mod_eq_of_lt hs]; rfl
    · rw [if_neg (by omega), dec_big hs]; simp

theorem f_ref03_Digits (n0 : Nat) (h0 : n0 < 1000000000000000000) : Meets Tryd.prog E0 n_ref03_Digits [U (n0 : Nat)] [] (Str (toB (Lib.decDigits n0))) [] := by
  refine m_ref03_Digits (by simp) (shut0 rfl) (shut0 rfl) (by simp) (by simp [keysOf]) ?_
  simp only [go_sem, s_ref03_Digits, ↓reduceIte, Nat.reduceEqDiff, Nat.reduceAdd, Nat.reduceLeDiff, reduceCtorEq, Nat.reduceLT, Int.reduceLT, Int.reduceLE, Int.reduceEq, Int.reduceToNat, Nat.reduceMul]
  refine W_loop (fun i : Nat × List UInt8 => i.1 + (if i.2 = [] then 1 else 0)) (fun i => i.1 ≤ n0 ∧ i.2.length + i.1 ≤ n0 + 1 ∧ digInv n0 i)
    (fun i => [(0, U (i.1 : Nat)), (3, Str (toB i.2))]) (fun _ => []) (n0, []) ⟨Nat.le_refl _, by simp, Or.inl ⟨rfl, rfl⟩⟩ ?_ ?_
  · simp only [show toB [] = bs [] from rfl]
    exact (subL [] [] (by simp [envS, go_sem, wkV, wkL, AV.ids, idsL, keysOf, ren, stoOf, slTrees, AV.asOwn, rowPart, AV.isNil] <;> assumption) (by simp [stoS, go_sem, wkV, wkL, wkO, AV.ids, Ob.ids, idsL, keysOf, ren, AV.one, stoOf, slTrees, AV.asOwn, rowPart, AV.isNil] <;> assumption) (by simp [keysOf, ren]) (by simp [stoOf, keysOf, ren]) (by simp [keysOf, ren]) (by simp [keysOf, ren]))
  · rintro ⟨n, l⟩ ⟨hn, hl, hinv⟩
    simp only at hn hl ⊢
    have es := strT l
    by_cases hgo : n ≠ 0 ∨ l = []
    · have hpick : decide ((0 : Nat) < n) = false → l.isEmpty = true := fun h => by
        have h' := of_decide_eq_false h
        rcases hgo with h2 | h2
        · omega
        · rw [h2]; rfl
      have h1 := one_digit (n % 10) (Nat.mod_lt _ (by decide))
      have e1 : (n % 10 + 1) % 18446744073709551616 = n % 10 + 1 := by omega
      have e2 : n / 10 % 18446744073709551616 = n / 10 := by omega
      have c1 : (((n % 10 : Nat) : Int) ≤ ((n % 10 + 1 : Nat) : Int)) = True := eq_true (by omega)
      have hz : (bs [48, 49, 50, 51, 52, 53, 54, 55, 56, 57]).size = 10 := rfl
      have c2 : (((n % 10 + 1 : Nat) : Int) ≤ ((10 : Nat) : Int)) = True := eq_true (by omega)
      have ha := addT [UInt8.ofNat (48 + n % 10)] l (by simp; omega)
      have g1 : n / 10 + (if UInt8.ofNat (48 + n % 10) :: l = [] then 1 else 0) < n + (if l = [] then 1 else 0) := by
        rw [if_neg (by simp)]
        rcases hgo with h2 | h2
        · omega
        · rw [if_pos h2]; omega
      have g2 : (UInt8.ofNat (48 + n % 10) :: l).length + n / 10 ≤ n0 + 1 := by
        simp only [List.length_cons]
        rcases hgo with h2 | h2
        · omega
        · rw [h2]; simp; omega
      have g3 := digInv_step hinv hgo
      cases d0 : decide ((0 : Nat) < n)
      · have := hpick d0
        simp only [go_sem, d0, es, this, h1, e1, e2, c1, c2, hz, ha, ↓reduceIte, Nat.reduceEqDiff, Nat.reduceAdd, Nat.reduceLeDiff, reduceCtorEq, Nat.reduceLT, Int.reduceLT, Int.reduceLE, Int.reduceEq, Int.reduceToNat, Nat.reduceMul]
        refine rd_of (n / 10, UInt8.ofNat (48 + n % 10) :: l) g1 ⟨by simp only; omega, g2, g3⟩ ?_
        exact (subL [] [] (by simp [envS, go_sem, wkV, wkL, AV.ids, idsL, keysOf, ren, stoOf, slTrees, AV.asOwn, rowPart, AV.isNil] <;> assumption) (by simp [stoS, go_sem, wkV, wkL, wkO, AV.ids, Ob.ids, idsL, keysOf, ren, AV.one, stoOf, slTrees, AV.asOwn, rowPart, AV.isNil] <;> assumption) (by simp [keysOf, ren]) (by simp [stoOf, keysOf, ren]) (by simp [keysOf, ren]) (by simp [keysOf, ren]))
      · simp only [go_sem, d0, es, h1, e1, e2, c1, c2, hz, ha, ↓reduceIte, Nat.reduceEqDiff, Nat.reduceAdd, Nat.reduceLeDiff, reduceCtorEq, Nat.reduceLT, Int.reduceLT, Int.reduceLE, Int.reduceEq, Int.reduceToNat, Nat.reduceMul]
        refine rd_of (n / 10, UInt8.ofNat (48 + n % 10) :: l) g1 ⟨by simp only; omega, g2, g3⟩ ?_
        exact (subL [] [] (by simp [envS, go_sem, wkV, wkL, AV.ids, idsL, keysOf, ren, stoOf, slTrees, AV.asOwn, rowPart, AV.isNil] <;> assumption) (by simp [stoS, go_sem, wkV, wkL, wkO, AV.ids, Ob.ids, idsL, keysOf, ren, AV.one, stoOf, slTrees, AV.asOwn, rowPart, AV.isNil] <;> assumption) (by simp [keysOf, ren]) (by simp [stoOf, keysOf, ren]) (by simp [keysOf, ren]) (by simp [keysOf, ren]))
    · have hn0 : n = 0 := Decidable.byContradiction fun h => hgo (Or.inl h)
      have hl0 : l ≠ [] := fun h => hgo (Or.inr h)
      have hv : Lib.decDigits n0 = l := by
        rcases hinv with ⟨h1, _⟩ | ⟨_, h2⟩
        · exact absurd h1 hl0
        · simp only at h2; rw [h2, if_pos hn0]; rfl
      have hie : l.isEmpty = false := by cases l; exact absurd rfl hl0; rfl
      subst hn0
      have d0 : decide ((0 : Nat) < 0) = false := rfl
      rw [hv]
      simp only [go_sem, d0, es, hie, ↓reduceIte, Nat.reduceEqDiff, Nat.reduceAdd, Nat.reduceLeDiff, reduceCtorEq, Nat.reduceLT, Int.reduceLT, Int.reduceLE, Int.reduceEq, Int.reduceToNat, Nat.reduceMul]
      refine wends (by first | exact Or.inl rfl | exact Or.inr rfl) ?_ (by first | rfl | simp [AV.ids, idsL])
      simp only [go_sem, r_ref03_Digits, ↓reduceIte, Nat.reduceEqDiff, Nat.reduceAdd, Nat.reduceLeDiff, reduceCtorEq, Nat.reduceLT, Int.reduceLT, Int.reduceLE, Int.reduceEq, Int.reduceToNat, Nat.reduceMul]

end Go.Proofs.YtcadhlakhdndjaaDoor
