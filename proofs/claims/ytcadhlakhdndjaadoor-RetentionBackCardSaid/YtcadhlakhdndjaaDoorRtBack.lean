/- What is printed is parsed as it was: the plain law. No statement of the seat is proved here. -/
import Derived.Test.YtcadhlakhdndjaaDoorRtPrint
set_option linter.unusedSimpArgs false
set_option linter.unusedVariables false
namespace Go.Proofs.YtcadhlakhdndjaaDoor
open Go Go.Sx

theorem parts_free (c : UInt8) : ∀ x : List UInt8, c ∉ x → partsB c x = [x]
  | [], _ => rfl
  | b :: x, h => by
    simp only [List.mem_cons, not_or] at h
    have ih := parts_free c x h.2
    simp only [partsB, if_neg (Ne.symm h.1), ih]

theorem parts_cut (c : UInt8) (r : List UInt8) : ∀ x : List UInt8, c ∉ x → partsB c (x ++ c :: r) = x :: partsB c r
  | [], _ => by simp [partsB]
  | b :: x, h => by
    simp only [List.mem_cons, not_or] at h
    have ih := parts_cut c r x h.2
    simp only [List.cons_append, partsB, if_neg (Ne.symm h.1), ih]

theorem parts_join (c : UInt8) : ∀ xs : List (List UInt8), xs ≠ [] → (∀ x ∈ xs, c ∉ x) → partsB c (Lib.join xs [c]) = xs
  | [], h, _ => absurd rfl h
  | [a], _, h => by rw [join_one]; exact parts_free c a (h a (by simp))
  | a :: b :: r, _, h => by
    have ih := parts_join c (b :: r) (by simp) (fun x hx => h x (by simp [hx]))
    have e : Lib.join (a :: b :: r) [c] = a ++ c :: Lib.join (b :: r) [c] := by
      simp [Lib.join, List.intercalate, List.intersperse]
    rw [e, parts_cut c _ a (h a (by simp)), ih]

theorem dig_of {r : Nat} (h : r < 10) : digB (UInt8.ofNat (48 + r)) = true ∧ (UInt8.ofNat (48 + r)).toNat = 48 + r := by
  have := (by decide : ∀ r : Fin 10, digB (UInt8.ofNat (48 + r.1)) = true ∧ (UInt8.ofNat (48 + r.1)).toNat = 48 + r.1) ⟨r, h⟩
  exact this

theorem dec_dig (n : Nat) : (Lib.decDigits n).all digB = true ∧ rtVal 0 (Lib.decDigits n) = n := by
  induction n using Nat.strongRecOn with
  | _ n ih =>
    by_cases h : n < 10
    · rw [dec_small h]
      have := dig_of h
      refine ⟨by rw [List.all_cons, this.1]; rfl, ?_⟩
      rw [rtVal_cons, rtVal_nil, this.2]; omega
    · rw [dec_big h]
      have hd := dig_of (Nat.mod_lt n (by decide : 10 > 0))
      have := ih (n / 10) (by omega)
      refine ⟨by rw [List.all_append, this.1, List.all_cons, hd.1]; rfl, ?_⟩
      have e : rtVal 0 (Lib.decDigits (n / 10) ++ [UInt8.ofNat (48 + n % 10)]) = rtVal 0 (Lib.decDigits (n / 10)) * 10 + ((UInt8.ofNat (48 + n % 10)).toNat - 48) := by
        unfold rtVal; rw [List.foldl_append]; rfl
      rw [e, this.2, hd.2]; omega

theorem dec_ne (n : Nat) : Lib.decDigits n ≠ [] := by
  intro h
  have := (dec_len n).2
  rw [h] at this; simp at this

theorem dec_free (n : Nat) (c : UInt8) (hc : digB c = false) : c ∉ Lib.decDigits n := by
  intro h
  have := List.all_eq_true.1 (dec_dig n).1 c h
  rw [hc] at this; cases this

theorem eith_dec {n : Nat} (h : n ≤ 1099511627776) : rtEith (Lib.decDigits n) = ((n : Int), true, 0) := by
  have hd := dec_dig n
  have hv := rtNum_val _ hd.1 0 0 (by simp)
  rw [hd.2] at hv
  have hr : (rtNum 0 (Lib.decDigits n)).2 = [] := (rtNum_all _ _).2 hd.1
  unfold rtEith
  rw [if_pos ⟨dec_ne n, hr⟩, hv, if_neg (by omega)]
  congr 1
  omega

theorem rung_back {r : Rung} (h : szB r = true) : rtRung (rtRungT r) = (r.1, r.2, 0) := by
  obtain ⟨n, m, rfl, hn, hm⟩ := sz_nat h
  have hx : rtRungT ((n : Int), (m : Int)) = Lib.decDigits n ++ 58 :: Lib.decDigits m := by unfold rtRungT; simp only [itoa_nat]
  have ht : Lib.trimB (Lib.decDigits n ++ 58 :: Lib.decDigits m) 32 = Lib.decDigits n ++ 58 :: Lib.decDigits m := by
    refine trim_done 32 _ (fun b hb => ?_) (fun b hb => ?_)
    · have hm := List.mem_of_mem_head? hb
      rintro rfl
      cases hdn : Lib.decDigits n with
      | nil => exact dec_ne n hdn
      | cons a l =>
        rw [hdn] at hb
        have : a = 32 := by simpa using hb
        exact dec_free n 32 (by decide) (by rw [hdn, this]; simp)
    · rintro rfl
      obtain ⟨i, c, hi⟩ := snoc_of (dec_ne m)
      rw [hi, show Lib.decDigits n ++ 58 :: (i ++ [c]) = (Lib.decDigits n ++ 58 :: i) ++ [c] by simp, List.getLast?_concat] at hb
      have : c = 32 := by simpa using hb
      exact dec_free m 32 (by decide) (by rw [hi, this]; simp)
  have hp : partsB 58 (Lib.decDigits n ++ 58 :: Lib.decDigits m) = [Lib.decDigits n, Lib.decDigits m] := by
    rw [parts_cut 58 _ _ (dec_free n 58 (by decide)), parts_free 58 _ (dec_free m 58 (by decide))]
  unfold rtRung
  rw [hx, ht, hp]
  simp only [eith_dec (show n ≤ 1099511627776 by omega), eith_dec (show m ≤ 1099511627776 by omega)]
  rw [if_neg (by decide), if_neg (by simp; omega)]
  rfl

theorem go_back : ∀ (l : List Rung) (acc : List Rung), l.all szB = true → rtGo (l.map rtRungT) (acc, false) = some (acc ++ l, false)
  | [], acc, _ => by simp [rtGo]
  | r :: l, acc, h => by
    simp only [List.all_cons, Bool.and_eq_true] at h
    simp only [List.map_cons, rtGo, rtStep, rung_back h.1, if_pos, Option.bind_some]
    rw [go_back l _ h.2]
    simp

theorem rt_back {l : List Rung} (h : togB l = true) : rtParse (rtText l) = (l, 0) := by
  have hl := tog_len h
  have ha := tog_all h
  have hp : partsB 44 (rtText l) = l.map rtRungT := by
    unfold rtText
    refine parts_join 44 _ ?_ ?_
    · intro e
      have := congrArg List.length e
      rw [List.length_map, List.length_nil] at this; omega
    · intro x hx
      obtain ⟨r, hr, rfl⟩ := List.mem_map.1 hx
      obtain ⟨n, m, rfl, _⟩ := sz_nat (List.all_eq_true.1 ha r hr)
      unfold rtRungT
      simp only [itoa_nat, List.mem_append, List.mem_cons, not_or]
      exact ⟨dec_free n 44 (by decide), by decide, dec_free m 44 (by decide)⟩
  unfold rtParse
  rw [hp, go_back l [] ha]
  simp only [List.nil_append]
  rw [if_neg (by decide), if_neg (by omega), if_pos h]

theorem parse_ok (t : List UInt8) : ((rtParse t).2 = 0 ∧ togB (rtParse t).1 = true) ∨ ((rtParse t).2 ≠ 0 ∧ (rtParse t).1 = []) := by
  unfold rtParse
  split
  · right; exact ⟨by decide, rfl⟩
  · split
    · right; exact ⟨by decide, rfl⟩
    · split
      · right; exact ⟨by decide, rfl⟩
      · split
        · left; rename_i h; exact ⟨rfl, h⟩
        · right; exact ⟨by decide, rfl⟩

end Go.Proofs.YtcadhlakhdndjaaDoor
