/- Texts of mine, many in one. No statement of the seat is proved here. -/
import Derived.Test.YtgmpceijcdimkaaGreatDoorPkD
import Derived.Test.YtgmpceijcdimkaaGreatDoorCards
import Derived.Test.YtgmpceijcdimkaaGreatDoorTie
import Derived.Test.YtgmpceijcdimkaaGreatDoorSxTab
import Derived.Test.YtgmpceijcdimkaaGreatDoorSxH
import Derived.ProofKit
import Derived.WalkKit
import Derived.OpenShut
import Derived.Deep.DeepHandedRow
import Derived.Deep.DeepWitnessRowRef
import Derived.Lib.LaidTab
set_option linter.unusedSimpArgs false
set_option linter.unusedVariables false
namespace Go.Proofs.YtgmpceijcdimkaaGreatDoor
open Go Go.Sx Go.ChangeShapes Go.WideShapes Go.ChangeAt Go.RowKit

/-- The witness's world: the listed variables hold what their initialisers lay. -/
noncomputable def laidWorld (os : Os) : World :=
 let N := (World.settled Tryz.prog os).heap.size
 let w0 := World.holding Tryz.prog os ⟨#[], #[], []⟩
 let put (h : Array Obj) (g : Nat) (cs : Array Value) : Array Obj := h.modify g fun
  | .cells _ t frozen => .cells cs t frozen
  | o => o
 let h0 := w0.heap
 let h1 := put h0 4 #[.int .u8 (128), .int .u8 (191), .int .u8 (160), .int .u8 (191), .int .u8 (128), .int .u8 (159), .int .u8 (144), .int .u8 (191), .int .u8 (128), .int .u8 (143), .int .u8 (0), .int .u8 (0), .int .u8 (0), .int .u8 (0), .int .u8 (0), .int .u8 (0), .int .u8 (0), .int .u8 (0), .int .u8 (0), .int .u8 (0), .int .u8 (0), .int .u8 (0), .int .u8 (0), .int .u8 (0), .int .u8 (0), .int .u8 (0), .int .u8 (0), .int .u8 (0), .int .u8 (0), .int .u8 (0), .int .u8 (0), .int .u8 (0)]
 let h2 := put h1 3 (Go.Pinned.utf8FirstZ.map fun z : Nat => Value.int .u8 (z : Int)).toArray
 { w0 with heap := h2 }

theorem toB_selfC (s : ByteArray) : toB s.data.toList = s := bytes_ext (by rw [toB_data])

abbrev shNm : Sh := .st [.bo, .it .i64]
abbrev shSr : Sh := .st [.str, .it .i64, .it .i64, .sl 2 (.st [.bo, .it .i64])]

theorem num_of {e : List T} (h : okS shNm e) : ∃ n : Num, e = numT n ∧ inN n := by
 rw [okS] at h
 simp only [okSs, okS] at h
 obtain ⟨_, _, rfl, ⟨x, rfl⟩, _, _, rfl, ⟨v, rfl, hv⟩, rfl⟩ := h
 exact ⟨(x, v), rfl, i64_wf hv⟩

theorem nums_of {es : List (List T)} (h : ∀ c ∈ es, okS shNm c) : ∃ l : List Num, es = l.map numT ∧ ∀ n ∈ l, inN n := by
 induction es with
 | nil => exact ⟨[], rfl, by simp⟩
 | cons e es ih =>
  obtain ⟨l, rfl, hl⟩ := ih (fun c hc => h c (by simp [hc]))
  obtain ⟨n, rfl, hn⟩ := num_of (h e (by simp))
  refine ⟨n :: l, rfl, fun x hx => ?_⟩
  rcases List.mem_cons.1 hx with rfl | hx
  ·exact hn
  ·exact hl x hx

theorem ser_of {e : List T} (h : okS shSr e) : ∃ s : Ser, e = seT s ∧ s.2.2.2.length ≤ 4611686018427387904 ∧ inS s := by
 rw [okS] at h
 simp only [okSs] at h
 obtain ⟨_, _, rfl, h1, _, _, rfl, h2, _, _, rfl, h3, _, _, rfl, h4, rfl⟩ := h
 simp only [okS] at h1 h2 h3
 obtain ⟨a, rfl, _⟩ := h1
 obtain ⟨x, rfl, _⟩ := h2
 obtain ⟨y, rfl, _⟩ := h3
 rw [okS] at h4
 obtain ⟨es, rfl, hl, he⟩ := h4
 obtain ⟨l, rfl, hn⟩ := nums_of he
 rw [List.length_map] at hl
 refine ⟨(a.data.toList, x, y, l), ?_, by unfold reachBytes at hl; simp only; omega, hn⟩
 simp only [seT, toB_selfC]
 rfl

theorem sers_of {es : List (List T)} (h : ∀ c ∈ es, okS shSr c) : ∃ l : List Ser, es = l.map seT ∧ ∀ s ∈ l, s.2.2.2.length ≤ 4611686018427387904 ∧ inS s := by
 induction es with
 | nil => exact ⟨[], rfl, by simp⟩
 | cons e es ih =>
  obtain ⟨l, rfl, hl⟩ := ih (fun c hc => h c (by simp [hc]))
  obtain ⟨s, rfl, hs⟩ := ser_of (h e (by simp))
  refine ⟨s :: l, rfl, fun x hx => ?_⟩
  rcases List.mem_cons.1 hx with rfl | hx
  ·exact hs
  ·exact hl x hx

theorem list_of {e : List T} (h : okS (.sl 4 shSr) e) : ∃ l : List Ser, e = [.sl 4 (l.map seT)] ∧ l.length ≤ 4611686018427387903 ∧ ∀ s ∈ l, s.2.2.2.length ≤ 4611686018427387904 ∧ inS s := by
 rw [okS] at h
 obtain ⟨es, rfl, hl, he⟩ := h
 obtain ⟨l, rfl, hs⟩ := sers_of he
 rw [List.length_map] at hl
 exact ⟨l, rfl, by unfold reachBytes at hl; omega, hs⟩

abbrev shCl : Sh := .st [.str, .sl 2 (.st [.bo, .it .i64]), .str]

theorem call_of {e : List T} (h : okS shCl e) : ∃ (w t : List UInt8) (a : List Num), AV.ag (e.map .t) = .ag [Str (toB w), numL a, Str (toB t)] ∧ a.length ≤ 4611686018427387903 ∧ ∀ n ∈ a, inN n := by
 rw [okS] at h
 simp only [okSs] at h
 obtain ⟨_, _, rfl, h1, _, _, rfl, h2, _, _, rfl, h3, rfl⟩ := h
 simp only [okS] at h1 h3
 obtain ⟨a, rfl, _⟩ := h1
 obtain ⟨b, rfl, _⟩ := h3
 rw [okS] at h2
 obtain ⟨es, rfl, hl, he⟩ := h2
 obtain ⟨l, rfl, hn⟩ := nums_of he
 rw [List.length_map] at hl
 refine ⟨a.data.toList, b.data.toList, l, ?_, by unfold reachBytes at hl; omega, hn⟩
 rw [toB_selfC, toB_selfC]
 rfl

end Go.Proofs.YtgmpceijcdimkaaGreatDoor
namespace Go.Proofs.YtgmpceijcdimkaaGreatDoor
open Go Go.Sx

theorem f_law27_alive : Meets Tryz.prog E0 n_law27_alive [] [] (Bo true) [] := by
 refine st0 m_law27_alive ?_
 have hA : Meets Tryz.prog E0 n_law27_of [Str (bs [97]), .t (.sl 1 [[.v (.int .i64 1)]])] [] (serA alA) [] := f_law27_of [97] 1 (by decide)
 have hB : Meets Tryz.prog E0 n_law27_of [Str (bs [98]), .t (.sl 1 [[.v (.int .i64 5)]])] [] (serA alB) [] := f_law27_of [98] 5 (by decide)
 have hC : Meets Tryz.prog E0 n_law27_of [Str (bs [99]), .t (.sl 1 [[.v (.int .i64 3)]])] [] (serA alC) [] := f_law27_of [99] 3 (by decide)
 have hN : Meets Tryz.prog E0 n_law27_of [Str (bs [97, 46, 98, 46, 99]), .t (.sl 1 [[.v (.int .i64 1)]])] [] (serA alN) [] := f_law27_of [97, 46, 98, 46, 99] 1 (by decide)
 have hM : Meets Tryz.prog E0 n_law27_of [Str (bs [99, 46, 97]), .t (.sl 1 [[.v (.int .i64 1)]])] [] (serA alM) [] := f_law27_of [99, 46, 97] 1 (by decide)
 have a1 := f_choose_Apply wHighMax [alA, alB, alC] [(false, 2000000)] [] (by decide) (by decide) (by decide) (by simp [alA, alB, alC, inS, inN]) (by simp [inN])
 have a2 := f_choose_Apply wNode [alN] [(false, 2000000), (false, 0)] [] (by decide) (by decide) (by decide) (by simp [alN, inS, inN]) (by simp [inN])
 rw [al_1.1, al_1.2] at a1
 rw [al_2.1, al_2.2] at a2
 have s1 := f_ref24_SameList [alB, alC] [alB, alC] (by decide) (by decide) (by decide)
 have s2 := f_ref24_SameList [alM] [alM] (by decide) (by decide) (by decide)
 rw [decide_eq_true rfl] at s1 s2
 have d0 : decide ((0 : Int) = 0) = true := rfl
 have e1 : toB wHighMax = bs [104, 105, 103, 104, 101, 115, 116, 77, 97, 120] := rfl
 have e2 : toB wNode = bs [97, 108, 105, 97, 115, 66, 121, 78, 111, 100, 101] := rfl
 have e3 : toB [] = bs [] := rfl
 have vA : serL [alA, alB, alC] = .t (.sl 4 [seT alA, seT alB, seT alC]) := rfl
 rw [e1, e3] at a1
 rw [e2, e3] at a2
 simp only [go_sem, s_law27_alive]
 refine Cl_show [101] hA (.one (Wk.refl _) (.one (Wk.row (by simp [slTrees, AV.asOwn, rowPart, stoOf]) (by simp)) .nil)) (by simp [stoOf]) ?_
 simp only [go_sem]
 refine Cl_show [103] hB (.one (Wk.refl _) (.one (Wk.row (by simp [slTrees, AV.asOwn, rowPart, stoOf]) (by simp)) .nil)) (by simp [stoOf]) ?_
 simp only [go_sem]
 refine Cl_show [105] hC (.one (Wk.refl _) (.one (Wk.row (by simp [slTrees, AV.asOwn, rowPart, stoOf]) (by simp)) .nil)) (by simp [stoOf]) ?_
 simp only [go_sem]
 refine Cl_show [107, 109] a1 (.one (Wk.refl _) (.one (Wk.row (by simp [slTrees, AV.asOwn, rowPart, stoOf, seT]) (by simp)) (.one (Wk.row (by simp [slTrees, AV.asOwn, rowPart, stoOf, numT]) (by simp)) (.one (Wk.refl _) .nil)))) (by simp [stoOf]) ?_
 simp only [go_sem]
 refine Cl_show [116] hN (.one (Wk.refl _) (.one (Wk.row (by simp [slTrees, AV.asOwn, rowPart, stoOf]) (by simp)) .nil)) (by simp [stoOf]) ?_
 simp only [go_sem]
 refine Cl_show [118, 121] a2 (.one (Wk.refl _) (.one (Wk.row (by simp [slTrees, AV.asOwn, rowPart, stoOf, seT]) (by simp)) (.one (Wk.row (by simp [slTrees, AV.asOwn, rowPart, stoOf, numT]) (by simp)) (.one (Wk.refl _) .nil)))) (by simp [stoOf]) ?_
 simp only [go_sem, d0]
 refine Cl_show [136] hB (.one (Wk.refl _) (.one (Wk.row (by simp [slTrees, AV.asOwn, rowPart, stoOf]) (by simp)) .nil)) (by simp [stoOf]) ?_
 simp only [go_sem]
 refine Cl_show [138] hC (.one (Wk.refl _) (.one (Wk.row (by simp [slTrees, AV.asOwn, rowPart, stoOf]) (by simp)) .nil)) (by simp [stoOf]) ?_
 simp only [go_sem]
 refine Cl_show [140] s1 (.one (Wk.refl _) (.one (Wk.row (by simp [slTrees, AV.asOwn, rowPart, stoOf, seT]) (by simp)) .nil)) (by simp [stoOf]) ?_
 simp only [go_sem]
 refine Cl_show [145] hM (.one (Wk.refl _) (.one (Wk.row (by simp [slTrees, AV.asOwn, rowPart, stoOf]) (by simp)) .nil)) (by simp [stoOf]) ?_
 simp only [go_sem]
 refine Cl_show [147] s2 (.one (Wk.refl _) (.one (Wk.row (by simp [slTrees, AV.asOwn, rowPart, stoOf, seT]) (by simp)) .nil)) (by simp [stoOf]) ?_
 simp only [go_sem]
 refine wE ?_
 simp only [go_sem, r_law27_alive]

end Go.Proofs.YtgmpceijcdimkaaGreatDoor
namespace Go.Proofs.YtgmpceijcdimkaaGreatDoor
open Go Go.Sx

theorem f_law27_ChooseMeasures (call : List UInt8) (s : Ser) (h : inS s) : Meets Tryz.prog E0 n_law27_ChooseMeasures [Str (toB call), serA s] [] (Bo true) [] := by
 refine st0 m_law27_ChooseMeasures ?_
 have hz : (s.2.2.2.map numT).length = s.2.2.2.length := by simp
 simp only [go_sem, s_law27_ChooseMeasures]
 refine Cl_plain f_law27_alive ?_
 cases d1 : decide ((2000 : Int) < (s.2.2.2.length : Int))
 ·cases d2 : decide ((1000 : Int) < (call.length : Int))
  ·have h1 := of_decide_eq_false d1
   have h2 := of_decide_eq_false d2
   have m1 := f_choose_Measure call (by omega) s (by omega) h
   have m2 := f_ref27_Measure call s (by omega) h
   simp only [go_sem, hz, d1, d2, toB_size, Bool.not_true]
   refine Cl_plain m1 ?_
   simp only [go_sem]
   refine Cl_plain m2 ?_
   simp only [go_sem, beq_self_eq_true]
   ((try (with_reducible refine rF ?_)); (try simp only [go_sem, beq_self_eq_true]))
   refine wE ?_
   simp only [go_sem, r_law27_ChooseMeasures]
  ·simp only [go_sem, hz, d1, d2, toB_size, Bool.not_true]
   refine wE ?_
   simp only [go_sem, r_law27_ChooseMeasures]
 ·simp only [go_sem, hz, d1, Bool.not_true]
  refine wE ?_
  simp only [go_sem, r_law27_ChooseMeasures]

end Go.Proofs.YtgmpceijcdimkaaGreatDoor
namespace Go.Proofs.YtgmpceijcdimkaaGreatDoor
open Go Go.Sx

theorem f_law27_ChooseOf (wd tx : List UInt8) (args : List Num) (l : List Ser) (h1 : l.length ≤ 4611686018427387904) (h2 : args.length ≤ 4611686018427387903) (h3 : ∀ s ∈ l, s.2.2.2.length ≤ 4611686018427387904 ∧ inS s) (h4 : ∀ n ∈ args, inN n) :
  Meets Tryz.prog E0 n_law27_ChooseOf [.ag [Str (toB wd), numL args, Str (toB tx)], serL l] [] (Bo true) [] := by
 refine st0 m_law27_ChooseOf ?_
 have hG := f_law27_great wd tx args l h1 h2 (fun s hs => (h3 s hs).1)
 have qa : binStr .eql (toB wd) (bs [97, 108, 105, 97, 115]) = some (.bool (wd == wAlias)) := eqT wd wAlias
 have qo : binStr .eql (toB wd) (bs [97, 108, 105, 97, 115, 66, 121, 78, 111, 100, 101]) = some (.bool (wd == wNode)) := eqT wd wNode
 have qg : binStr .eql (toB wd) (bs [103, 114, 111, 117, 112]) = some (.bool (wd == wGroup)) := eqT wd wGroup
 cases hg : greatB wd tx args l
 ·rw [hg] at hG
  cases ha : (wd == wAlias)
  ·cases ho : (wd == wNode)
   ·obtain ⟨g1, g2, g3, g4, g5⟩ := great_small hg
    have hv : ∀ s ∈ l, s.1.length ≤ 100000 ∧ s.2.2.2.length ≤ 100000 ∧ inS s := fun s hs => ⟨by have := (g5 s hs).1; omega, by have := (g5 s hs).2; omega, (h3 s hs).2⟩
    have c1 := f_choose_Apply wd l args tx (by omega) (by omega) (by omega) hv h4
    obtain ⟨o1, o2⟩ := apply_shape (call := wd) (args := args) (tx := tx) (fun s hs => (hv s hs).2.1) rfl
    have a1 := apply_err (call := wd) (l := l) (args := args) (tx := tx)
    have a2 := fun p => apply_cnt (call := wd) (l := l) (args := args) (tx := tx) ha ho p
    have a3 := apply_all (call := wd) (l := l) (args := args) (tx := tx)
    generalize applyM wd l args tx = R at *
    obtain ⟨R, e⟩ := R
    simp only at c1 o1 o2 a1 a2 a3
    have hz : (l.map seT).length = l.length := by simp
    have hzR : (R.map seT).length = R.length := by simp
    cases he : decide (e = 0)
    ·have hR := a1 (of_decide_eq_false he)
     subst hR
     have d0 : decide (((0 : Nat) : Int) = 0) = true := rfl
     simp only [go_sem, s_law27_ChooseOf]
     refine Cl_plain f_law27_alive ?_
     simp only [go_sem]
     refine Cl_plain hG ?_
     simp only [go_sem, qa, ha, qo, ho]
     refine Cl_plain c1 ?_
     simp only [go_sem, he, Bool.not_false]
     refine wE ?_
     simp only [go_sem, r_law27_ChooseOf]
     first | done | rfl
    ·have he' := of_decide_eq_true he
     subst he'
     simp only [go_sem, s_law27_ChooseOf]
     refine Cl_plain f_law27_alive ?_
     simp only [go_sem]
     refine Cl_plain hG ?_
     simp only [go_sem, qa, ha, qo, ho]
     refine Cl_plain c1 ?_
     simp only [go_sem, he, Bool.not_true]
     refine W_loop (fun i : Nat => R.length - i) (fun i => i ≤ R.length)
      (fun i => [(1, serL l), (2, .ptr 100 0), (5, serL R), (7, I i)]) (fun _ => [(100, .box [Str (toB wd), numL args, Str (toB tx)])]) 0 (Nat.zero_le _) (sR [] []) ?_
     intro i hi
     by_cases hil : i < R.length
     ·have d0 : decide (i < R.length) = true := decide_eq_true hil
      obtain ⟨x, hx⟩ := get_of_lt hil
      have hgx : (R.map seT)[i]? = some [.v (.string (toB x.1)), .v (.int .i64 x.2.1), .v (.int .i64 x.2.2.1), .sl 2 (x.2.2.2.map numT)] := by rw [List.getElem?_map, hx]; rfl
      have ei : IntKind.i64.wrap ((i : Int) + 1) = ((i + 1 : Nat) : Int) := by rw [wrap_i64_of (by omega) (by omega)]; omega
      have k1 := f_law27_count R x (by omega) o2
      have k2 := f_law27_count l x (by omega) (fun s hs => by have := (hv s hs).2.1; unfold maxLen; omega)
      have k3 : cntS R x ≤ cntS l x := a2 _
      generalize cntS R x = y1 at *
      generalize cntS l x = y2 at *
      have d1 : decide ((y2 : Int) < (y1 : Int)) = false := decide_eq_false (by omega)
      have d2 : decide (y2 < y1) = false := decide_eq_false (by omega)
      simp only [go_sem, hzR, d0, hgx]
      refine Cl_plain k1 ?_
      simp only [go_sem, hzR, d0, hgx]
      refine Cl_plain k2 ?_
      simp only [go_sem, d1, d2, ei]
      ((try (with_reducible refine rF ?_)); (try simp only [go_sem, d1, d2, ei]))
      exact rd_of (i + 1) (by first | omega | (simp only; omega)) (by omega) (sR [] [])
     ·obtain rfl : i = R.length := by omega
      have d0 : decide (R.length < R.length) = false := decide_eq_false (by omega)
      have dle : decide ((R.length : Int) ≤ (l.length : Int)) = true := decide_eq_true (by omega)
      have dle2 : decide (R.length ≤ l.length) = true := decide_eq_true o1
      have e6 : wSort.length = 6 := rfl
      simp only [go_sem, hzR, d0]
      cases hgp : (wd == wGroup)
      ·by_cases h6 : 6 ≤ wd.length
       ·have d6 : decide ((6 : Int) ≤ (wd.length : Int)) = true := decide_eq_true (by omega)
        have c6 : ((6 : Int) ≤ (wd.length : Int)) = True := eq_true (by omega)
        have ex : (toB wd).extract 0 6 = toB (wd.take 6) := by rw [extT]; rfl
        have qs : binStr .eql (toB (wd.take 6)) (bs [115, 111, 114, 116, 66, 121]) = some (.bool (wd.take 6 == wSort)) := eqT (wd.take 6) wSort
        cases hs : (wd.take 6 == wSort)
        ·simp only [go_sem, toB_size, d6, c6, ex, qs, hs, qg, hgp, hz, hzR, dle, dle2]
         refine wE ?_
         simp only [go_sem, r_law27_ChooseOf]
        ·have hlen := a3 rfl (by rw [hs]; rfl)
         have deq : decide ((R.length : Int) = (l.length : Int)) = true := decide_eq_true (by omega)
         have deq2 : decide (R.length = l.length) = true := decide_eq_true hlen
         simp only [go_sem, toB_size, d6, c6, ex, qs, hs, qg, hgp, hz, hzR, deq, deq2]
         refine wE ?_
         simp only [go_sem, r_law27_ChooseOf]
       ·have d6 : ((6 : Int) ≤ (wd.length : Int)) = False := eq_false (by omega)
        simp only [go_sem, toB_size, d6, decide_false, qg, hgp, hz, hzR, dle, dle2]
        refine wE ?_
        simp only [go_sem, r_law27_ChooseOf]
      ·have hlen := a3 rfl (by rw [hgp, Bool.or_true])
       have deq : decide ((R.length : Int) = (l.length : Int)) = true := decide_eq_true (by omega)
       have deq2 : decide (R.length = l.length) = true := decide_eq_true hlen
       have hw : wd = wGroup := by simpa using hgp
       have d6 : ((6 : Int) ≤ (wd.length : Int)) = False := eq_false (by rw [hw]; decide)
       simp only [go_sem, toB_size, d6, decide_false, qg, hgp, hz, hzR, deq, deq2]
       refine wE ?_
       simp only [go_sem, r_law27_ChooseOf]
   ·simp only [go_sem, s_law27_ChooseOf]
    refine Cl_plain f_law27_alive ?_
    simp only [go_sem]
    refine Cl_plain hG ?_
    simp only [go_sem, qa, ha, qo, ho]
    refine wE ?_
    simp only [go_sem, r_law27_ChooseOf]
  ·simp only [go_sem, s_law27_ChooseOf]
   refine Cl_plain f_law27_alive ?_
   simp only [go_sem]
   refine Cl_plain hG ?_
   simp only [go_sem, qa, ha]
   refine wE ?_
   simp only [go_sem, r_law27_ChooseOf]
 ·rw [hg] at hG
  simp only [go_sem, s_law27_ChooseOf]
  refine Cl_plain f_law27_alive ?_
  simp only [go_sem]
  refine Cl_plain hG ?_
  simp only [go_sem]
  refine wE ?_
  simp only [go_sem, r_law27_ChooseOf]

end Go.Proofs.YtgmpceijcdimkaaGreatDoor
namespace Go.Proofs.YtgmpceijcdimkaaGreatDoor
open Go Go.Sx

def wyW : Nat → List UInt8
 | 0 => [97, 118, 101, 114, 97, 103, 101]
 | 1 => [109, 97, 120, 105, 109, 117, 109]
 | 2 => [109, 105, 110, 105, 109, 117, 109]
 | _ => [99, 117, 114, 114, 101, 110, 116]

def upW (i : Nat) : List UInt8 := wyW i ++ [65, 98, 111, 118, 101]
def dnW (i : Nat) : List UInt8 := wyW i ++ [66, 101, 108, 111, 119]

theorem up_facts : ∀ i < 4, takesR (upW i) = ((1, 1), (false, true)) ∧ takesR (dnW i) = ((1, 1), (false, true)) ∧ (ruledM (upW i)).1.1 = 4 ∧ (ruledM (dnW i)).1.1 = 5 ∧ wayR (upW i) = wayR (dnW i) ∧ (upW i).length ≤ 20 ∧ (dnW i).length ≤ 20 ∧ (wyW i).length ≤ 20 := by decide +kernel

theorem cmp_self (v : Num) (h : okN v.1 v.2 = true) : cmpM (valM v.1 v.2) (valM v.1 v.2) = 0 := by
 rw [(okN_t h).1]
 unfold cmpM
 simp

set_option maxHeartbeats 2000000 in
theorem f_law27_ChooseWays (l : List Ser) (tx : List UInt8) (v : Num) (h1 : l.length ≤ 4611686018427387904) (h3 : ∀ s ∈ l, s.2.2.2.length ≤ 4611686018427387904 ∧ inS s) (hv2 : inN v) :
  Meets Tryz.prog E0 n_law27_ChooseWays [serL l, Str (toB tx), .ag [Bo v.1, I v.2]] [] (Bo true) [] := by
 refine st0 m_law27_ChooseWays ?_
 have hG := f_law27_great [] tx [] l h1 (by decide) (fun s hs => (h3 s hs).1)
 cases hg : greatB [] tx [] l
 ·rw [hg] at hG
  obtain ⟨g1, g2, g3, g4, g5⟩ := great_small hg
  have hv : ∀ s ∈ l, s.1.length ≤ 100000 ∧ s.2.2.2.length ≤ 100000 ∧ inS s := fun s hs => ⟨by have := (g5 s hs).1; omega, by have := (g5 s hs).2; omega, (h3 s hs).2⟩
  have c1 := f_choose_Apply wGrep l [] tx (by decide) (by omega) (by decide) hv (by simp)
  have c2 := f_choose_Apply wExcl l [] tx (by decide) (by omega) (by decide) hv (by simp)
  obtain ⟨w1, w2⟩ := ways_grep l tx
  obtain ⟨o1, o2⟩ := apply_shape (call := wGrep) (args := []) (tx := tx) (fun s hs => (hv s hs).2.1) rfl
  obtain ⟨p1, p2⟩ := apply_shape (call := wExcl) (args := []) (tx := tx) (fun s hs => (hv s hs).2.1) rfl
  generalize applyM wGrep l [] tx = R at *
  generalize applyM wExcl l [] tx = S at *
  obtain ⟨R, e⟩ := R
  obtain ⟨S, e'⟩ := S
  simp only at c1 c2 w1 w2 o1 o2 p1 p2
  subst w1
  have hz : (l.map seT).length = l.length := by simp
  have hzR : (R.map seT).length = R.length := by simp
  have hzS : (S.map seT).length = S.length := by simp
  have dn : ∀ y : Int, decide (y = y) = true := fun y => decide_eq_true rfl
  simp only [go_sem, s_law27_ChooseWays]
  refine Cl_plain f_law27_alive ?_
  simp only [go_sem]
  refine Cl_show [] hG (.ag (.one (Wk.refl _) (.one Wk.empty (.one (Wk.refl _) .nil))) (.one (Wk.refl _) .nil)) (by simp) ?_
  simp only [go_sem]
  refine Cl_show [] c1 (.one (Wk.refl _) (.one (Wk.refl _) (.one Wk.empty (.one (Wk.refl _) .nil)))) (by simp) ?_
  simp only [go_sem]
  refine Cl_show [] c2 (.one (Wk.refl _) (.one (Wk.refl _) (.one Wk.empty (.one (Wk.refl _) .nil)))) (by simp) ?_
  simp only [go_sem, dn, Bool.not_true]
  apply joinC (A := True)
  ·intro key
   cases he : decide (e = 0)
   ·simp only [go_sem, he, s_law27_ChooseWays_t4]
    refine W_loop (fun i : Nat => 4 - i) (fun i => i ≤ 4) (fun i => [(0, serL l), (5, .ptr 100 0), (14, .ptr 193 0), (15, I i)]) (fun _ => [(193, .box [Str (bs [97, 118, 101, 114, 97, 103, 101]), Str (bs [109, 97, 120, 105, 109, 117, 109]), Str (bs [109, 105, 110, 105, 109, 117, 109]), Str (bs [99, 117, 114, 114, 101, 110, 116])]), (100, .box [Bo v.1, I v.2])]) 0 (by omega) (sR [] []) (key trivial)
   ·have he' := of_decide_eq_true he
    subst he'
    obtain ⟨q, rfl, rfl⟩ := w2 rfl
    have fA := fun (i : Nat) (s : Ser) (h : l[i]? = some s) (hq : q s = true) => filt_at h hq
    have fB := fun (i : Nat) (s : Ser) (h : l[i]? = some s) (hq : (!q s) = true) => filt_at (q := fun s => !q s) h hq
    have fA2 := fun (j : Nat) (s : Ser) (h : (l.filter q)[j]? = some s) => filt_is h
    have nA : (l.filter q).length = l.countP q := List.countP_eq_length_filter.symm
    have nB : (l.filter fun s => !q s).length = l.countP (fun s => !q s) := List.countP_eq_length_filter.symm
    generalize l.filter q = A at *
    generalize (l.filter fun s => !q s) = B at *
    simp only [go_sem, he]
    refine W_loop (fun i : Nat => l.length - i) (fun i => i ≤ l.length)
     (fun i => [(0, serL l), (5, .ptr 100 0), (7, serL A), (9, serL B), (11, I ((l.take i).countP q : Nat)), (12, I ((l.take i).countP (fun s => !q s) : Nat)), (13, I i)]) (fun _ => [(100, .box [Bo v.1, I v.2])]) 0 (Nat.zero_le _) ?_ ?_
    ·simp only [List.take_zero, List.countP_nil]
     exact (sR [] [])
    intro i hi
    by_cases hil : i < l.length
    ·have d0 : decide (i < l.length) = true := decide_eq_true hil
     obtain ⟨s, hs⟩ := get_of_lt hil
     have hgs : (l.map seT)[i]? = some [.v (.string (toB s.1)), .v (.int .i64 s.2.1), .v (.int .i64 s.2.2.1), .sl 2 (s.2.2.2.map numT)] := by rw [List.getElem?_map, hs]; rfl
     have ei : IntKind.i64.wrap ((i : Int) + 1) = ((i + 1 : Nat) : Int) := by rw [wrap_i64_of (by omega) (by omega)]; omega
     have fA := fA i s hs
     have fB := fB i s hs
     have kA := cnt_succ (q := q) hs
     have kB := cnt_succ (q := fun s => !q s) hs
     generalize (l.take i).countP q = x at *
     generalize (l.take i).countP (fun s => !q s) = y at *
     cases hq : q s
     ·rw [if_neg (by rw [hq]; decide), Nat.add_zero] at kA
      rw [if_pos (by rw [hq]; rfl)] at kB
      have fB := fB (by rw [hq]; rfl)
      have hyl := (List.getElem?_eq_some_iff.1 fB).1
      have hgB : (B.map seT)[y]? = some [.v (.string (toB s.1)), .v (.int .i64 s.2.1), .v (.int .i64 s.2.2.1), .sl 2 (s.2.2.2.map numT)] := by rw [List.getElem?_map, fB]; rfl
      have dy : decide (y < B.length) = true := decide_eq_true hyl
      have ey : IntKind.i64.wrap ((y : Int) + 1) = ((y + 1 : Nat) : Int) := by rw [wrap_i64_of (by omega) (by omega)]; omega
      have hS := f_same14 s s (by have := (hv s (List.mem_of_getElem? hs)).2.1; unfold maxLen; omega)
      rw [decide_eq_true rfl] at hS
      by_cases hxl : x < A.length
      ·have dx : decide (x < A.length) = true := decide_eq_true hxl
       obtain ⟨z, hz1⟩ := get_of_lt hxl
       have hgA : (A.map seT)[x]? = some [.v (.string (toB z.1)), .v (.int .i64 z.2.1), .v (.int .i64 z.2.2.1), .sl 2 (z.2.2.2.map numT)] := by rw [List.getElem?_map, hz1]; rfl
       have hne : decide (z = s) = false := decide_eq_false (fun h => by have := fA2 x z hz1; rw [h, hq] at this; cases this)
       have hS2 := f_same14 z s (o2 z (List.mem_of_getElem? hz1))
       rw [hne] at hS2
       simp only [go_sem, s_law27_ChooseWays_b0, hz, d0, hzR, dx, hgA, hgs]
       refine Cl_plain hS2 ?_
       simp only [go_sem, hzS, dy, hgB, hgs, hz, d0]
       ((try (with_reducible refine rF ?_)); (try simp only [go_sem, hzS, dy, hgB, hgs, hz, d0]))
       refine Cl_plain hS ?_
       simp only [go_sem, ey, ei]
       ((try (with_reducible refine rF ?_)); (try simp only [go_sem, ey, ei]))
       refine rd_of (i + 1) (by first | omega | (simp only; omega)) (by omega) ?_
       simp only [kA, kB]
       exact (sR [] [])
      ·have dx : decide (x < A.length) = false := decide_eq_false hxl
       simp only [go_sem, s_law27_ChooseWays_b0, hz, d0, hzR, dx, hzS, dy, hgB, hgs]
       ((try (with_reducible refine rF ?_)); (try simp only [go_sem, s_law27_ChooseWays_b0, hz, d0, hzR, dx, hzS, dy, hgB, hgs]))
       refine Cl_plain hS ?_
       simp only [go_sem, ey, ei]
       ((try (with_reducible refine rF ?_)); (try simp only [go_sem, ey, ei]))
       refine rd_of (i + 1) (by first | omega | (simp only; omega)) (by omega) ?_
       simp only [kA, kB]
       exact (sR [] [])
     ·rw [if_pos hq] at kA
      rw [if_neg (by rw [hq]; decide), Nat.add_zero] at kB
      have fA := fA hq
      have hxl := (List.getElem?_eq_some_iff.1 fA).1
      have hgA : (A.map seT)[x]? = some [.v (.string (toB s.1)), .v (.int .i64 s.2.1), .v (.int .i64 s.2.2.1), .sl 2 (s.2.2.2.map numT)] := by rw [List.getElem?_map, fA]; rfl
      have dx : decide (x < A.length) = true := decide_eq_true hxl
      have ex : IntKind.i64.wrap ((x : Int) + 1) = ((x + 1 : Nat) : Int) := by rw [wrap_i64_of (by omega) (by omega)]; omega
      have hS := f_same14 s s (by have := (hv s (List.mem_of_getElem? hs)).2.1; unfold maxLen; omega)
      rw [decide_eq_true rfl] at hS
      simp only [go_sem, s_law27_ChooseWays_b0, hz, d0, hzR, dx, hgA, hgs]
      refine Cl_plain hS ?_
      simp only [go_sem, ex, ei]
      ((try (with_reducible refine rF ?_)); (try simp only [go_sem, ex, ei]))
      refine rd_of (i + 1) (by first | omega | (simp only; omega)) (by omega) ?_
      simp only [kA, kB]
      exact (sR [] [])
    ·obtain rfl : i = l.length := by omega
     have d0 : decide (l.length < l.length) = false := decide_eq_false (by omega)
     have dA : decide ((A.length : Int) = (A.length : Int)) = true := decide_eq_true rfl
     have dB : decide ((B.length : Int) = (B.length : Int)) = true := decide_eq_true rfl
     rw [List.take_length, ← nA, ← nB]
     simp only [go_sem, s_law27_ChooseWays_b0, hz, d0, s_law27_ChooseWays_t1, hzR, hzS, dn, dA, dB, Bool.not_true]
     ((try (with_reducible refine rF ?_)); (try simp only [go_sem, s_law27_ChooseWays_b0, hz, d0, s_law27_ChooseWays_t1, hzR, hzS, dn, dA, dB, Bool.not_true]))
     simp only [go_sem, s_law27_ChooseWays_t4]
     refine W_loop (fun i : Nat => 4 - i) (fun i => i ≤ 4) (fun i => [(0, serL l), (5, .ptr 100 0), (14, .ptr 193 0), (15, I i)]) (fun _ => [(193, .box [Str (bs [97, 118, 101, 114, 97, 103, 101]), Str (bs [109, 97, 120, 105, 109, 117, 109]), Str (bs [109, 105, 110, 105, 109, 117, 109]), Str (bs [99, 117, 114, 114, 101, 110, 116])]), (100, .box [Bo v.1, I v.2])]) 0 (by omega) (sR [] []) (key trivial)
  intro _
  intro i hi
  by_cases hil : i < 4
  ·have eB : toB [] = bs [] := rfl
   rcases (show i = 0 ∨ i = 1 ∨ i = 2 ∨ i = 3 by omega) with rfl | rfl | rfl | rfl
   ·have i4 : ((0 : Nat) : Int) < ((4 : Nat) : Int) := by decide
    have d4 : decide (((0 : Nat) : Int) < 4) = true := rfl
    have ei : IntKind.i64.wrap (((0 : Nat) : Int) + 1) = ((1 : Nat) : Int) := by decide
    obtain ⟨ta, tb, ka, kb, hw, la, lb, _⟩ := up_facts 0 (by decide)
    have q1 : binStr .add (bs [97, 118, 101, 114, 97, 103, 101]) (bs [65, 98, 111, 118, 101]) = some (.string (toB (upW 0))) := addT (wyW 0) [65, 98, 111, 118, 101] (by decide)
    have q2 : binStr .add (bs [97, 118, 101, 114, 97, 103, 101]) (bs [66, 101, 108, 111, 119]) = some (.string (toB (dnW 0))) := addT (wyW 0) [66, 101, 108, 111, 119] (by decide)
    have a1 := f_choose_Apply (upW 0) l [v] [] (by omega) (by omega) (by simp) hv (by simpa using hv2)
    have a2 := f_choose_Apply (dnW 0) l [v] [] (by omega) (by omega) (by simp) hv (by simpa using hv2)
    obtain ⟨m1, m2⟩ := ways_ab (upW 0) (dnW 0) l v ta tb ka kb hw
    generalize applyM (upW 0) l [v] [] = X at *
    generalize applyM (dnW 0) l [v] [] = Y at *
    obtain ⟨X, f⟩ := X
    obtain ⟨Y, f'⟩ := Y
    simp only at a1 a2 m1 m2
    subst m1
    rw [eB] at a1 a2
    have hzX : (X.map seT).length = X.length := by simp
    have hzY : (Y.map seT).length = Y.length := by simp
    simp only [go_sem, s_law27_ChooseWays_b2, d4, i4, q1]
    refine Cl_show [204] a1 (.one (Wk.refl _) (.one (Wk.refl _) (.one (Wk.row (by simp [slTrees, AV.asOwn, rowPart, stoOf, numT]) (by simp)) (.one (Wk.refl _) .nil)))) (by simp [stoOf]) ?_
    simp only [go_sem]
    ((try (with_reducible refine rF ?_)); (try simp only [go_sem, d4, i4, q2]))
    refine Cl_show [217] a2 (.one (Wk.refl _) (.one (Wk.refl _) (.one (Wk.row (by simp [slTrees, AV.asOwn, rowPart, stoOf, numT]) (by simp)) (.one (Wk.refl _) .nil)))) (by simp [stoOf]) ?_
    cases hf : decide (f = 0)
    ·simp only [go_sem, dn, hf, Bool.not_true]
     ((try (with_reducible refine rF ?_)); (try simp only [go_sem, dn, hf, Bool.not_true, ei]))
     exact rd_of (0 + 1) (by first | omega | (simp only; omega)) (by omega) (sR [] [])
    ·have hf' := of_decide_eq_true hf
     subst hf'
     obtain ⟨ok, le⟩ := m2 rfl
     have hC := f_ref02_Cmp v.1 v.1 v.2 v.2 hv2.1 hv2.1
     rw [cmp_self v ok] at hC
     have wl : IntKind.i64.wrap ((X.length : Int) + (Y.length : Int)) = (X.length : Int) + (Y.length : Int) := wrap_i64_of (by omega) (by omega)
     have dl : decide ((l.length : Int) < (X.length : Int) + (Y.length : Int)) = false := decide_eq_false (by omega)
     simp only [go_sem, dn, hf, Bool.not_true]
     ((try (with_reducible refine rF ?_)); (try simp only [go_sem, dn, hf, Bool.not_true]))
     refine Cl_plain hC ?_
     simp only [go_sem, dn, hz, hzX, hzY, wl, dl, Bool.not_true]
     ((try (with_reducible refine rF ?_)); (try simp only [go_sem, dn, hz, hzX, hzY, wl, dl, ei, Bool.not_true]))
     exact rd_of (0 + 1) (by first | omega | (simp only; omega)) (by omega) (sR [] [])
   ·have i4 : ((1 : Nat) : Int) < ((4 : Nat) : Int) := by decide
    have d4 : decide (((1 : Nat) : Int) < 4) = true := rfl
    have ei : IntKind.i64.wrap (((1 : Nat) : Int) + 1) = ((2 : Nat) : Int) := by decide
    obtain ⟨ta, tb, ka, kb, hw, la, lb, _⟩ := up_facts 1 (by decide)
    have q1 : binStr .add (bs [109, 97, 120, 105, 109, 117, 109]) (bs [65, 98, 111, 118, 101]) = some (.string (toB (upW 1))) := addT (wyW 1) [65, 98, 111, 118, 101] (by decide)
    have q2 : binStr .add (bs [109, 97, 120, 105, 109, 117, 109]) (bs [66, 101, 108, 111, 119]) = some (.string (toB (dnW 1))) := addT (wyW 1) [66, 101, 108, 111, 119] (by decide)
    have a1 := f_choose_Apply (upW 1) l [v] [] (by omega) (by omega) (by simp) hv (by simpa using hv2)
    have a2 := f_choose_Apply (dnW 1) l [v] [] (by omega) (by omega) (by simp) hv (by simpa using hv2)
    obtain ⟨m1, m2⟩ := ways_ab (upW 1) (dnW 1) l v ta tb ka kb hw
    generalize applyM (upW 1) l [v] [] = X at *
    generalize applyM (dnW 1) l [v] [] = Y at *
    obtain ⟨X, f⟩ := X
    obtain ⟨Y, f'⟩ := Y
    simp only at a1 a2 m1 m2
    subst m1
    rw [eB] at a1 a2
    have hzX : (X.map seT).length = X.length := by simp
    have hzY : (Y.map seT).length = Y.length := by simp
    simp only [go_sem, s_law27_ChooseWays_b2, d4, i4, q1]
    refine Cl_show [204] a1 (.one (Wk.refl _) (.one (Wk.refl _) (.one (Wk.row (by simp [slTrees, AV.asOwn, rowPart, stoOf, numT]) (by simp)) (.one (Wk.refl _) .nil)))) (by simp [stoOf]) ?_
    simp only [go_sem]
    ((try (with_reducible refine rF ?_)); (try simp only [go_sem, d4, i4, q2]))
    refine Cl_show [217] a2 (.one (Wk.refl _) (.one (Wk.refl _) (.one (Wk.row (by simp [slTrees, AV.asOwn, rowPart, stoOf, numT]) (by simp)) (.one (Wk.refl _) .nil)))) (by simp [stoOf]) ?_
    cases hf : decide (f = 0)
    ·simp only [go_sem, dn, hf, Bool.not_true]
     ((try (with_reducible refine rF ?_)); (try simp only [go_sem, dn, hf, Bool.not_true, ei]))
     exact rd_of (1 + 1) (by first | omega | (simp only; omega)) (by omega) (sR [] [])
    ·have hf' := of_decide_eq_true hf
     subst hf'
     obtain ⟨ok, le⟩ := m2 rfl
     have hC := f_ref02_Cmp v.1 v.1 v.2 v.2 hv2.1 hv2.1
     rw [cmp_self v ok] at hC
     have wl : IntKind.i64.wrap ((X.length : Int) + (Y.length : Int)) = (X.length : Int) + (Y.length : Int) := wrap_i64_of (by omega) (by omega)
     have dl : decide ((l.length : Int) < (X.length : Int) + (Y.length : Int)) = false := decide_eq_false (by omega)
     simp only [go_sem, dn, hf, Bool.not_true]
     ((try (with_reducible refine rF ?_)); (try simp only [go_sem, dn, hf, Bool.not_true]))
     refine Cl_plain hC ?_
     simp only [go_sem, dn, hz, hzX, hzY, wl, dl, Bool.not_true]
     ((try (with_reducible refine rF ?_)); (try simp only [go_sem, dn, hz, hzX, hzY, wl, dl, ei, Bool.not_true]))
     exact rd_of (1 + 1) (by first | omega | (simp only; omega)) (by omega) (sR [] [])
   ·have i4 : ((2 : Nat) : Int) < ((4 : Nat) : Int) := by decide
    have d4 : decide (((2 : Nat) : Int) < 4) = true := rfl
    have ei : IntKind.i64.wrap (((2 : Nat) : Int) + 1) = ((3 : Nat) : Int) := by decide
    obtain ⟨ta, tb, ka, kb, hw, la, lb, _⟩ := up_facts 2 (by decide)
    have q1 : binStr .add (bs [109, 105, 110, 105, 109, 117, 109]) (bs [65, 98, 111, 118, 101]) = some (.string (toB (upW 2))) := addT (wyW 2) [65, 98, 111, 118, 101] (by decide)
    have q2 : binStr .add (bs [109, 105, 110, 105, 109, 117, 109]) (bs [66, 101, 108, 111, 119]) = some (.string (toB (dnW 2))) := addT (wyW 2) [66, 101, 108, 111, 119] (by decide)
    have a1 := f_choose_Apply (upW 2) l [v] [] (by omega) (by omega) (by simp) hv (by simpa using hv2)
    have a2 := f_choose_Apply (dnW 2) l [v] [] (by omega) (by omega) (by simp) hv (by simpa using hv2)
    obtain ⟨m1, m2⟩ := ways_ab (upW 2) (dnW 2) l v ta tb ka kb hw
    generalize applyM (upW 2) l [v] [] = X at *
    generalize applyM (dnW 2) l [v] [] = Y at *
    obtain ⟨X, f⟩ := X
    obtain ⟨Y, f'⟩ := Y
    simp only at a1 a2 m1 m2
    subst m1
    rw [eB] at a1 a2
    have hzX : (X.map seT).length = X.length := by simp
    have hzY : (Y.map seT).length = Y.length := by simp
    simp only [go_sem, s_law27_ChooseWays_b2, d4, i4, q1]
    refine Cl_show [204] a1 (.one (Wk.refl _) (.one (Wk.refl _) (.one (Wk.row (by simp [slTrees, AV.asOwn, rowPart, stoOf, numT]) (by simp)) (.one (Wk.refl _) .nil)))) (by simp [stoOf]) ?_
    simp only [go_sem]
    ((try (with_reducible refine rF ?_)); (try simp only [go_sem, d4, i4, q2]))
    refine Cl_show [217] a2 (.one (Wk.refl _) (.one (Wk.refl _) (.one (Wk.row (by simp [slTrees, AV.asOwn, rowPart, stoOf, numT]) (by simp)) (.one (Wk.refl _) .nil)))) (by simp [stoOf]) ?_
    cases hf : decide (f = 0)
    ·simp only [go_sem, dn, hf, Bool.not_true]
     ((try (with_reducible refine rF ?_)); (try simp only [go_sem, dn, hf, Bool.not_true, ei]))
     exact rd_of (2 + 1) (by first | omega | (simp only; omega)) (by omega) (sR [] [])
    ·have hf' := of_decide_eq_true hf
     subst hf'
     obtain ⟨ok, le⟩ := m2 rfl
     have hC := f_ref02_Cmp v.1 v.1 v.2 v.2 hv2.1 hv2.1
     rw [cmp_self v ok] at hC
     have wl : IntKind.i64.wrap ((X.length : Int) + (Y.length : Int)) = (X.length : Int) + (Y.length : Int) := wrap_i64_of (by omega) (by omega)
     have dl : decide ((l.length : Int) < (X.length : Int) + (Y.length : Int)) = false := decide_eq_false (by omega)
     simp only [go_sem, dn, hf, Bool.not_true]
     ((try (with_reducible refine rF ?_)); (try simp only [go_sem, dn, hf, Bool.not_true]))
     refine Cl_plain hC ?_
     simp only [go_sem, dn, hz, hzX, hzY, wl, dl, Bool.not_true]
     ((try (with_reducible refine rF ?_)); (try simp only [go_sem, dn, hz, hzX, hzY, wl, dl, ei, Bool.not_true]))
     exact rd_of (2 + 1) (by first | omega | (simp only; omega)) (by omega) (sR [] [])
   ·have i4 : ((3 : Nat) : Int) < ((4 : Nat) : Int) := by decide
    have d4 : decide (((3 : Nat) : Int) < 4) = true := rfl
    have ei : IntKind.i64.wrap (((3 : Nat) : Int) + 1) = ((4 : Nat) : Int) := by decide
    obtain ⟨ta, tb, ka, kb, hw, la, lb, _⟩ := up_facts 3 (by decide)
    have q1 : binStr .add (bs [99, 117, 114, 114, 101, 110, 116]) (bs [65, 98, 111, 118, 101]) = some (.string (toB (upW 3))) := addT (wyW 3) [65, 98, 111, 118, 101] (by decide)
    have q2 : binStr .add (bs [99, 117, 114, 114, 101, 110, 116]) (bs [66, 101, 108, 111, 119]) = some (.string (toB (dnW 3))) := addT (wyW 3) [66, 101, 108, 111, 119] (by decide)
    have a1 := f_choose_Apply (upW 3) l [v] [] (by omega) (by omega) (by simp) hv (by simpa using hv2)
    have a2 := f_choose_Apply (dnW 3) l [v] [] (by omega) (by omega) (by simp) hv (by simpa using hv2)
    obtain ⟨m1, m2⟩ := ways_ab (upW 3) (dnW 3) l v ta tb ka kb hw
    generalize applyM (upW 3) l [v] [] = X at *
    generalize applyM (dnW 3) l [v] [] = Y at *
    obtain ⟨X, f⟩ := X
    obtain ⟨Y, f'⟩ := Y
    simp only at a1 a2 m1 m2
    subst m1
    rw [eB] at a1 a2
    have hzX : (X.map seT).length = X.length := by simp
    have hzY : (Y.map seT).length = Y.length := by simp
    simp only [go_sem, s_law27_ChooseWays_b2, d4, i4, q1]
    refine Cl_show [204] a1 (.one (Wk.refl _) (.one (Wk.refl _) (.one (Wk.row (by simp [slTrees, AV.asOwn, rowPart, stoOf, numT]) (by simp)) (.one (Wk.refl _) .nil)))) (by simp [stoOf]) ?_
    simp only [go_sem]
    ((try (with_reducible refine rF ?_)); (try simp only [go_sem, d4, i4, q2]))
    refine Cl_show [217] a2 (.one (Wk.refl _) (.one (Wk.refl _) (.one (Wk.row (by simp [slTrees, AV.asOwn, rowPart, stoOf, numT]) (by simp)) (.one (Wk.refl _) .nil)))) (by simp [stoOf]) ?_
    cases hf : decide (f = 0)
    ·simp only [go_sem, dn, hf, Bool.not_true]
     ((try (with_reducible refine rF ?_)); (try simp only [go_sem, dn, hf, Bool.not_true, ei]))
     exact rd_of (3 + 1) (by first | omega | (simp only; omega)) (by omega) (sR [] [])
    ·have hf' := of_decide_eq_true hf
     subst hf'
     obtain ⟨ok, le⟩ := m2 rfl
     have hC := f_ref02_Cmp v.1 v.1 v.2 v.2 hv2.1 hv2.1
     rw [cmp_self v ok] at hC
     have wl : IntKind.i64.wrap ((X.length : Int) + (Y.length : Int)) = (X.length : Int) + (Y.length : Int) := wrap_i64_of (by omega) (by omega)
     have dl : decide ((l.length : Int) < (X.length : Int) + (Y.length : Int)) = false := decide_eq_false (by omega)
     simp only [go_sem, dn, hf, Bool.not_true]
     ((try (with_reducible refine rF ?_)); (try simp only [go_sem, dn, hf, Bool.not_true]))
     refine Cl_plain hC ?_
     simp only [go_sem, dn, hz, hzX, hzY, wl, dl, Bool.not_true]
     ((try (with_reducible refine rF ?_)); (try simp only [go_sem, dn, hz, hzX, hzY, wl, dl, ei, Bool.not_true]))
     exact rd_of (3 + 1) (by first | omega | (simp only; omega)) (by omega) (sR [] [])
  ·obtain rfl : i = 4 := by omega
   have d0 : decide (((4 : Nat) : Int) < 4) = false := rfl
   simp only [go_sem, s_law27_ChooseWays_b2, d0, s_law27_ChooseWays_t3]
   refine wE ?_
   simp only [go_sem, r_law27_ChooseWays]
 ·rw [hg] at hG
  simp only [go_sem, s_law27_ChooseWays]
  refine Cl_plain f_law27_alive ?_
  simp only [go_sem]
  refine Cl_show [] hG (.ag (.one (Wk.refl _) (.one Wk.empty (.one (Wk.refl _) .nil))) (.one (Wk.refl _) .nil)) (by simp) ?_
  simp only [go_sem]
  refine wE ?_
  simp only [go_sem, r_law27_ChooseWays]

end Go.Proofs.YtgmpceijcdimkaaGreatDoor
namespace Go.Proofs.YtgmpceijcdimkaaGreatDoor
open Go Go.Sx

theorem f_law27_ChooseFirst (l : List Ser) (n : Nat) (hn : n < 256) (h1 : l.length ≤ 4611686018427387904) (h3 : ∀ s ∈ l, s.2.2.2.length ≤ 4611686018427387904 ∧ inS s) : Meets Tryz.prog E0 n_law27_ChooseFirst [serL l, .t (.v (.int .u8 n))] [] (Bo true) [] := by
 refine st0 m_law27_ChooseFirst ?_
 have hG := f_law27_great [] [] [] l h1 (by decide) (fun s hs => (h3 s hs).1)
 have eB : toB [] = bs [] := rfl
 have hk8 : n % 9 ≤ 8 := by omega
 obtain ⟨f1, f2, f3⟩ := first_law l (n % 9) hk8
 cases hg : greatB [] [] [] l
 ·obtain ⟨g1, _, _, _, g5⟩ := great_small hg
  have hv : ∀ s ∈ l, s.1.length ≤ 100000 ∧ s.2.2.2.length ≤ 100000 ∧ inS s := fun s hs => ⟨by have := (g5 s hs).1; omega, by have := (g5 s hs).2; omega, (h3 s hs).2⟩
  have c1 := f_choose_Apply wLimit l [(false, ((n % 9 : Nat) : Int) * 1000000)] [] (by decide) (by omega) (by simp) hv (by simp [inN]; omega)
  have c2 := f_choose_Apply wSortMax l [] [] (by decide) (by omega) (by decide) hv (by simp)
  have c3 := f_choose_Apply wHighMax l [(false, ((n % 9 : Nat) : Int) * 1000000)] [] (by decide) (by omega) (by simp) hv (by simp [inN]; omega)
  have l1 := apply_le wLimit l [(false, ((n % 9 : Nat) : Int) * 1000000)] []
  have l3 := apply_le wHighMax l [(false, ((n % 9 : Nat) : Int) * 1000000)] []
  have v1 := apply_val wLimit l [(false, ((n % 9 : Nat) : Int) * 1000000)] []
  have v3 := apply_val wHighMax l [(false, ((n % 9 : Nat) : Int) * 1000000)] []
  generalize applyM wLimit l [(false, ((n % 9 : Nat) : Int) * 1000000)] [] = a at *
  generalize applyM wSortMax l [] [] = b at *
  generalize applyM wHighMax l [(false, ((n % 9 : Nat) : Int) * 1000000)] [] = c at *
  obtain ⟨a, e⟩ := a
  obtain ⟨b, e'⟩ := b
  obtain ⟨c, e''⟩ := c
  simp only at f1 f2 f3 c1 c2 c3 l1 l3 v1 v3
  subst f1
  subst f2
  rw [hg] at hG
  have w1 : IntKind.i64.wrap ((n % 9 : Nat) : Int) = ((n % 9 : Nat) : Int) := wrap_i64_of (by omega) (by omega)
  have w2 : IntKind.i64.wrap (((n % 9 : Nat) : Int) * 1000000) = ((n % 9 : Nat) : Int) * 1000000 := wrap_i64_of (by omega) (by omega)
  generalize hk : n % 9 = k at *
  have e1 : toB wLimit = bs [108, 105, 109, 105, 116] := rfl
  have e2 : toB wSortMax = bs [115, 111, 114, 116, 66, 121, 77, 97, 120, 105, 109, 97] := rfl
  have e3 : toB wHighMax = bs [104, 105, 103, 104, 101, 115, 116, 77, 97, 120] := rfl
  rw [e1, eB] at c1
  rw [e2, eB] at c2
  rw [e3, eB] at c3
  have hrow : ∀ (sto : Nat → Option Ob), sto 113 = some (.row 2 true [[.v (.bool false), .v (.int .i64 ((k : Int) * 1000000))]]) → Wk sto [113] (.own 113 2 0 1 true) (numL [(false, (k : Int) * 1000000)]) := fun sto h =>
   Wk.row (by simp [slTrees, AV.asOwn, rowPart, h, numT]) (by simp)
  have dn : ∀ y : Int, decide (y = y) = true := fun y => decide_eq_true rfl
  have hz : (l.map seT).length = l.length := by simp
  have hzb : (b.map seT).length = b.length := by simp
  simp only [go_sem, s_law27_ChooseFirst]
  refine Cl_plain f_law27_alive ?_
  simp only [go_sem]
  refine Cl_show [] hG (.ag (.one (Wk.refl _) (.one Wk.empty (.one (Wk.refl _) .nil))) (.one (Wk.refl _) .nil)) (by simp) ?_
  simp only [go_sem, hk, w1, w2]
  refine Cl_show [113] c1 (.one (Wk.refl _) (.one (Wk.refl _) (.one (hrow _ (by simp [stoOf])) (.one (Wk.refl _) .nil)))) (by simp [stoOf]) ?_
  simp only [go_sem]
  refine Cl_show [] c2 (.one (Wk.refl _) (.one (Wk.refl _) (.one Wk.empty (.one (Wk.refl _) .nil)))) (by simp) ?_
  simp only [go_sem]
  have hfro : ∀ (sto : Nat → Option Ob), sto 113 = some (.fro 2 [[.v (.bool false), .v (.int .i64 ((k : Int) * 1000000))]]) → Wk sto [] (.own 113 2 0 1 true) (numL [(false, (k : Int) * 1000000)]) := fun sto h =>
   Wk.fro (by simp [slTrees, AV.asOwn, rowPart, h, numT]) h
  refine Cl_show [] c3 (.one (Wk.refl _) (.one (Wk.refl _) (.one (hfro _ (by simp [stoOf])) (.one (Wk.refl _) .nil)))) (by simp) ?_
  cases he : decide (e = 0)
  ·simp only [go_sem, he, Bool.not_false, dn]
   ((try (with_reducible refine rF ?_)); (try simp only [go_sem, he, Bool.not_false, dn]))
   refine wE ?_
   simp only [go_sem, r_law27_ChooseFirst]
  ·have he' := of_decide_eq_true he
   subst he'
   obtain ⟨q1, q2, q3⟩ := f3 rfl
   have em : min (k : Int) (l.length : Int) = ((min k l.length : Nat) : Int) := by omega
   have t1 : l.take (min k l.length) = a := by
    rw [q1]
    rcases Nat.le_total k l.length with q | q
    ·rw [Nat.min_eq_left q]
    ·rw [Nat.min_eq_right q, List.take_of_length_le q, List.take_length]
   have t2 : b.take (min k l.length) = c := by
    rw [q3, ← q2]
    rcases Nat.le_total k b.length with q | q
    ·rw [Nat.min_eq_left q]
    ·rw [Nat.min_eq_right q, List.take_of_length_le q, List.take_length]
   have c4 : min k l.length ≤ l.length := Nat.min_le_right _ _
   have c5 : (((min k l.length : Nat) : Int) ≤ (l.length : Int)) = True := eq_true (by omega)
   have c6 : (((min k l.length : Nat) : Int) ≤ (b.length : Int)) = True := eq_true (by omega)
   have s1 := f_ref24_SameList a a (by omega) (by omega) (fun s hs => by obtain ⟨s', h', e'⟩ := v1 s hs; rw [e']; have := (hv s' h').2.1; unfold maxLen; omega)
   have s3 := f_ref24_SameList c c (by omega) (by omega) (fun s hs => by obtain ⟨s', h', e'⟩ := v3 s hs; rw [e']; have := (hv s' h').2.1; unfold maxLen; omega)
   rw [decide_eq_true rfl] at s1 s3
   generalize min k l.length = m at *
   have p1 : (l.map seT).take m = a.map seT := by rw [← t1, List.map_take]
   have p2 : (b.map seT).take m = c.map seT := by rw [← t2, List.map_take]
   have db : decide ((b.length : Int) = (l.length : Int)) = true := decide_eq_true (by omega)
   simp only [go_sem, he, Bool.not_true, dn]
   simp only [go_sem, hk, w1, em, hz, c5]
   rw [p1]
   refine Cl_plain s1 ?_
   have db2 : decide (b.length = l.length) = true := decide_eq_true q2
   simp only [go_sem, hz, hzb, db, db2, c6]
   rw [p2]
   refine Cl_plain s3 ?_
   simp only [go_sem]
   refine wE ?_
   simp only [go_sem, r_law27_ChooseFirst]
 ·rw [hg] at hG
  simp only [go_sem, s_law27_ChooseFirst]
  refine Cl_plain f_law27_alive ?_
  simp only [go_sem]
  refine Cl_show [] hG (.ag (.one (Wk.refl _) (.one Wk.empty (.one (Wk.refl _) .nil))) (.one (Wk.refl _) .nil)) (by simp) ?_
  simp only [go_sem]
  refine wE ?_
  simp only [go_sem, r_law27_ChooseFirst]

end Go.Proofs.YtgmpceijcdimkaaGreatDoor
