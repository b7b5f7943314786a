/- Calls of functions with variables of their own; the first of a list; what finer slots make. No statement of the seat is proved here. -/
import Derived.Test.YtmjlldlaigoflaaGreatLdNew
set_option linter.unusedSimpArgs false
set_option linter.unusedVariables false
namespace Go.Proofs.YtmjlldlaigoflaaGreat
open Go Go.Sx

/-- A call of a function value that has variables: they are handed, and left. -/
theorem Cl_cap {P : Program} {E : Env} {io : List Nat} {Q : Exit → St → Prop} {k : List Kt} {env : List (Nat × AV)} {sto : List (Nat × Ob)} {draw : Bool} {prs : List (Nat × Nat)} {vars : List Nat} {id : Nat} {acc : List Rc}
    {ops : List SO} {d : Option Nat} {g : FuncId} {xs caps : List AV} {r : AV} {ins outs : List (Nat × Ob)} (h : Meets P E g (xs ++ caps) ins r outs) (hin : ∀ i ∈ keysOf ins, stoOf sto i = stoOf ins i) (hk : keysOf outs = keysOf ins) (nd : (keysOf ins).Nodup)
    (hr : R P E io Q draw prs vars k (id + 1) ops (if draw then acc ++ [⟨r, idsL (xs ++ caps) ++ keysOf outs, outs⟩] else acc) (match d with | some d => (d, r) :: env | none => env) (outs ++ sto)) :
    Cl P E io Q draw prs vars k id ops acc d env sto (.fn g [] caps) xs := by
  refine ⟨g, [], caps, rfl, r, ins, outs, [], false, xs ++ caps, ?_, ?_⟩
  · exact { meets := h, wk := by simpa using Wks.refl (xs ++ caps), insOk := hin, newOk := fun i hi => Or.inl (by rw [← hk]; exact hi), snOk := by simp, keepOk := by simp, nd := by rw [hk]; exact nd }
  · simp only [froze_nil, List.append_nil, List.nil_append, Bool.false_eq_true, if_false]
    exact hr

def rchsB (r : Ring) (t now : Int) : Bool := decide (now - r.1 * (r.2.length : Int) < t - t % r.1)

theorem ring_bd {w : Int} {l : List Slot} (h : ringB w l = true) : 1 ≤ w ∧ w ≤ 86400 ∧ 1 ≤ w * (l.length : Int) ∧ w * (l.length : Int) ≤ 34560000 ∧ rchM (rungM (w, l)) = w * (l.length : Int) := by
  have hs := ringB_sized h
  have hb := mul_bd hs.1 hs.2.1 (show (1 : Int) ≤ (l.length : Int) by omega) (by omega)
  refine ⟨hs.1, hs.2.1, hb.1, hb.2, ?_⟩
  have : szB (rungM (w, l)) = true := szB_iff.2 ⟨hs.1, hs.2.1, by simp only [rungM]; omega, by simp only [rungM]; omega⟩
  unfold rchM
  rw [this, if_pos rfl]; rfl

theorem f_ladder_reaches (w : Int) (l : List Slot) (t now : Int) (h : ringB w l = true) (ht : timedB t = true) (hn : timedB now = true) : Meets Tryz.prog E0 n_ladder_reaches [ringV w l, I t, I now] [] (Bo (rchsB (w, l) t now)) [] := by
  refine m_ladder_reaches (by simp) (shut0 rfl) (shut0 rfl) (by simp) (by simp [keysOf]) ?_
  obtain ⟨h1, h2, h3, h4, h5⟩ := ring_bd h
  have ht' := timedB_iff.1 ht
  have hn' := timedB_iff.1 hn
  have hw0 : ¬ w = 0 := by omega
  have q1 : t.tmod w = t % w := smod ht'.1
  have q2 := Int.emod_nonneg t hw0
  have q3 := Int.emod_lt_of_pos t (show 0 < w by omega)
  have q4 : IntKind.i64.wrap (t - t % w) = t - t % w := wrap_i64_of (by omega) (by omega)
  have b1 := f_ladder_reach w l
  rw [h5] at b1
  unfold rchsB
  simp only
  generalize w * (l.length : Int) = x at *
  have q5 : IntKind.i64.wrap (now - x) = now - x := wrap_i64_of (by omega) (by omega)
  simp only [go_sem, s_ladder_reaches, i64_rem hw0, q1, q4, ↓reduceIte, Nat.reduceEqDiff, Nat.reduceAdd, Nat.reduceLeDiff, reduceCtorEq, Nat.reduceLT, Int.reduceLT, Int.reduceLE, Int.reduceEq, Int.reduceToNat, Nat.reduceMul]
  refine Cl_plain b1 ?_
  simp only [go_sem, q5, ↓reduceIte, Nat.reduceEqDiff, Nat.reduceAdd, Nat.reduceLeDiff, reduceCtorEq, Nat.reduceLT, Int.reduceLT, Int.reduceLE, Int.reduceEq, Int.reduceToNat, Nat.reduceMul]
  ((try (with_reducible refine R_fin (by repeat' (first | exact okp0 | refine okp rfl rfl rfl ?_)) ?_)); (try simp only [go_sem, ↓reduceIte, Nat.reduceEqDiff, Nat.reduceAdd, Nat.reduceLeDiff, reduceCtorEq, Nat.reduceLT, Int.reduceLT, Int.reduceLE, Int.reduceEq, Int.reduceToNat, Nat.reduceMul]))
  refine wends (by first | exact Or.inl rfl | exact Or.inr rfl) ?_ (by first | rfl | simp [AV.ids, idsL])
  simp only [go_sem, r_ladder_reaches, ↓reduceIte, Nat.reduceEqDiff, Nat.reduceAdd, Nat.reduceLeDiff, reduceCtorEq, Nat.reduceLT, Int.reduceLT, Int.reduceLE, Int.reduceEq, Int.reduceToNat, Nat.reduceMul]

def idxF (p : Ring → Bool) : List Ring → Nat → Int
  | [], _ => -1
  | r :: l, i => if p r then (i : Int) else idxF p l (i + 1)

theorem f_IndexFunc_A (g : Nat) (p : Ring → Bool) (a b c : Int) (l : List Ring) (hn : l.length ≤ maxLen)
    (hg : ∀ r ∈ l, Meets Tryz.prog E0 g [ringV r.1 r.2, .ptr 0 0, .ptr 1 0] [(0, .box [I a, I b]), (1, .box [I c])] (Bo (p r)) [(0, .box [I a, I b]), (1, .box [I c])]) :
    Meets Tryz.prog E0 n_slices_IndexFunc_Sapi_Ring_api_Ring [rgL l, .fn g [] [.ptr 0 0, .ptr 1 0]] [(0, .box [I a, I b]), (1, .box [I c])] (I (idxF p l 0)) [(0, .box [I a, I b]), (1, .box [I c])] := by
  have hn2 : l.length ≤ 9223372036854775807 := hn
  generalize hout : idxF p l 0 = out
  refine m_slices_IndexFunc_Sapi_Ring_api_Ring (by simp) (shut_of (by simp [idsL, AV.ids, keysOf]) (by simp [Ob.live, Ob.ids, keysOf, idsL, AV.ids])) (shut_of (by simp [idsL, AV.ids, keysOf]) (by simp [Ob.live, Ob.ids, keysOf, idsL, AV.ids])) (by simp [keysOf]) (by simp [keysOf]) ?_
  simp only [go_sem, s_slices_IndexFunc_Sapi_Ring_api_Ring, ↓reduceIte, Nat.reduceEqDiff, Nat.reduceAdd, Nat.reduceLeDiff, reduceCtorEq, Nat.reduceLT, Int.reduceLT, Int.reduceLE, Int.reduceEq, Int.reduceToNat, Nat.reduceMul]
  refine W_loop (fun i : Nat => l.length - i) (fun i => i ≤ l.length ∧ idxF p (l.drop i) i = out)
    (fun i => [(0, rgL l), (1, .fn g [] [.ptr 0 0, .ptr 1 0]), (7, I l.length), (8, I i)])
    (fun i => [(0, .box [I a, I b]), (1, .box [I c])]) 0 ⟨Nat.zero_le _, by simpa using hout⟩ (subL [] [] (by simp [envS, go_sem, wkV, wkL, AV.ids, idsL, keysOf, ren, stoOf, slTrees, AV.asOwn, rowPart, AV.isNil] <;> assumption) (by simp [stoS, go_sem, wkV, wkL, wkO, AV.ids, Ob.ids, idsL, keysOf, ren, AV.one, stoOf, slTrees, AV.asOwn, rowPart, AV.isNil] <;> assumption) (by simp [keysOf, ren]) (by simp [stoOf, keysOf, ren]) (by simp [keysOf, ren]) (by simp [keysOf, ren])) ?_
  rintro i ⟨hi, hr⟩
  simp only [go_sem, ↓reduceIte, Nat.reduceEqDiff, Nat.reduceAdd, Nat.reduceLeDiff, reduceCtorEq, Nat.reduceLT, Int.reduceLT, Int.reduceLE, Int.reduceEq, Int.reduceToNat, Nat.reduceMul]
  refine W_split rfl (fun h => ?_) (fun h => ?_)
  · simp at h
    obtain ⟨r, hs⟩ := get_of_lt h
    have ei : IntKind.i64.wrap ((i : Int) + 1) = ((i + 1 : Nat) : Int) := by rw [wrap_i64_of (by omega) (by omega)]; omega
    rw [drop_get hs] at hr
    simp only [idxF] at hr
    simp only [go_sem, hs, rgT, ↓reduceIte, Nat.reduceEqDiff, Nat.reduceAdd, Nat.reduceLeDiff, reduceCtorEq, Nat.reduceLT, Int.reduceLT, Int.reduceLE, Int.reduceEq, Int.reduceToNat, Nat.reduceMul]
    refine Cl_cap (hg r (List.mem_of_getElem? hs)) (by simp [keysOf, stoOf]) (by simp [keysOf]) (by simp [keysOf]) ?_
    cases hp : p r
    · rw [hp, if_neg (by decide)] at hr
      simp only [go_sem, ei, ↓reduceIte, Nat.reduceEqDiff, Nat.reduceAdd, Nat.reduceLeDiff, reduceCtorEq, Nat.reduceLT, Int.reduceLT, Int.reduceLE, Int.reduceEq, Int.reduceToNat, Nat.reduceMul]
      exact rd_of (i + 1) (by first | omega | (simp only; omega)) ⟨by first | omega | (simp only; omega), hr⟩ (subL [] [] (by simp [envS, go_sem, wkV, wkL, AV.ids, idsL, keysOf, ren, stoOf, slTrees, AV.asOwn, rowPart, AV.isNil] <;> assumption) (by simp [stoS, go_sem, wkV, wkL, wkO, AV.ids, Ob.ids, idsL, keysOf, ren, AV.one, stoOf, slTrees, AV.asOwn, rowPart, AV.isNil] <;> assumption) (by simp [keysOf, ren]) (by simp [stoOf, keysOf, ren]) (by simp [keysOf, ren]) (by simp [keysOf, ren]))
    · rw [hp, if_pos rfl] at hr
      simp only [go_sem, ↓reduceIte, Nat.reduceEqDiff, Nat.reduceAdd, Nat.reduceLeDiff, reduceCtorEq, Nat.reduceLT, Int.reduceLT, Int.reduceLE, Int.reduceEq, Int.reduceToNat, Nat.reduceMul]
      refine wends2 [] [] (by first | exact Or.inl rfl | exact Or.inr rfl) ?_ (by simp [AV.ids, idsL, keysOf]) (by simp [stoS, wkO, ls_cons, ls_nil, stoOf, ren, keysOf, Ob.ids, wkV, wkL, AV.one, idsL, AV.ids] <;> assumption) (by simp [keysOf, ren]) (by simp [stoOf, keysOf, ren]) (by simp [keysOf, ren]) (by simp [keysOf, ren])
      simp only [go_sem, r_slices_IndexFunc_Sapi_Ring_api_Ring, exists_eq_left', Option.some.injEq, ↓reduceIte, Nat.reduceEqDiff, Nat.reduceAdd, Nat.reduceLeDiff, reduceCtorEq, Nat.reduceLT, Int.reduceLT, Int.reduceLE, Int.reduceEq, Int.reduceToNat, Nat.reduceMul]
      simp [wkV, wkL, slTrees, AV.asOwn, rowPart, stoOf, AV.isNil, hr]
  · have e : i = l.length := by simp at h; omega
    subst e
    rw [List.drop_length] at hr
    simp only [idxF] at hr
    simp only [go_sem, ↓reduceIte, Nat.reduceEqDiff, Nat.reduceAdd, Nat.reduceLeDiff, reduceCtorEq, Nat.reduceLT, Int.reduceLT, Int.reduceLE, Int.reduceEq, Int.reduceToNat, Nat.reduceMul]
    refine wends2 [] [] (by first | exact Or.inl rfl | exact Or.inr rfl) ?_ (by simp [AV.ids, idsL, keysOf]) (by simp [stoS, wkO, ls_cons, ls_nil, stoOf, ren, keysOf, Ob.ids, wkV, wkL, AV.one, idsL, AV.ids] <;> assumption) (by simp [keysOf, ren]) (by simp [stoOf, keysOf, ren]) (by simp [keysOf, ren]) (by simp [keysOf, ren])
    simp only [go_sem, r_slices_IndexFunc_Sapi_Ring_api_Ring, exists_eq_left', Option.some.injEq, ↓reduceIte, Nat.reduceEqDiff, Nat.reduceAdd, Nat.reduceLeDiff, reduceCtorEq, Nat.reduceLT, Int.reduceLT, Int.reduceLE, Int.reduceEq, Int.reduceToNat, Nat.reduceMul]
    simp [wkV, wkL, slTrees, AV.asOwn, rowPart, stoOf, AV.isNil, hr]

theorem f_IndexFunc_B (g : Nat) (p : Ring → Bool) (a c : Int) (l : List Ring) (hn : l.length ≤ maxLen)
    (hg : ∀ r ∈ l, Meets Tryz.prog E0 g [ringV r.1 r.2, .ptr 0 0, .ptr 1 0] [(0, .box [I a]), (1, .box [I c])] (Bo (p r)) [(0, .box [I a]), (1, .box [I c])]) :
    Meets Tryz.prog E0 n_slices_IndexFunc_Sapi_Ring_api_Ring [rgL l, .fn g [] [.ptr 0 0, .ptr 1 0]] [(0, .box [I a]), (1, .box [I c])] (I (idxF p l 0)) [(0, .box [I a]), (1, .box [I c])] := by
  have hn2 : l.length ≤ 9223372036854775807 := hn
  generalize hout : idxF p l 0 = out
  refine m_slices_IndexFunc_Sapi_Ring_api_Ring (by simp) (shut_of (by simp [idsL, AV.ids, keysOf]) (by simp [Ob.live, Ob.ids, keysOf, idsL, AV.ids])) (shut_of (by simp [idsL, AV.ids, keysOf]) (by simp [Ob.live, Ob.ids, keysOf, idsL, AV.ids])) (by simp [keysOf]) (by simp [keysOf]) ?_
  simp only [go_sem, s_slices_IndexFunc_Sapi_Ring_api_Ring, ↓reduceIte, Nat.reduceEqDiff, Nat.reduceAdd, Nat.reduceLeDiff, reduceCtorEq, Nat.reduceLT, Int.reduceLT, Int.reduceLE, Int.reduceEq, Int.reduceToNat, Nat.reduceMul]
  refine W_loop (fun i : Nat => l.length - i) (fun i => i ≤ l.length ∧ idxF p (l.drop i) i = out)
    (fun i => [(0, rgL l), (1, .fn g [] [.ptr 0 0, .ptr 1 0]), (7, I l.length), (8, I i)])
    (fun i => [(0, .box [I a]), (1, .box [I c])]) 0 ⟨Nat.zero_le _, by simpa using hout⟩ (subL [] [] (by simp [envS, go_sem, wkV, wkL, AV.ids, idsL, keysOf, ren, stoOf, slTrees, AV.asOwn, rowPart, AV.isNil] <;> assumption) (by simp [stoS, go_sem, wkV, wkL, wkO, AV.ids, Ob.ids, idsL, keysOf, ren, AV.one, stoOf, slTrees, AV.asOwn, rowPart, AV.isNil] <;> assumption) (by simp [keysOf, ren]) (by simp [stoOf, keysOf, ren]) (by simp [keysOf, ren]) (by simp [keysOf, ren])) ?_
  rintro i ⟨hi, hr⟩
  simp only [go_sem, ↓reduceIte, Nat.reduceEqDiff, Nat.reduceAdd, Nat.reduceLeDiff, reduceCtorEq, Nat.reduceLT, Int.reduceLT, Int.reduceLE, Int.reduceEq, Int.reduceToNat, Nat.reduceMul]
  refine W_split rfl (fun h => ?_) (fun h => ?_)
  · simp at h
    obtain ⟨r, hs⟩ := get_of_lt h
    have ei : IntKind.i64.wrap ((i : Int) + 1) = ((i + 1 : Nat) : Int) := by rw [wrap_i64_of (by omega) (by omega)]; omega
    rw [drop_get hs] at hr
    simp only [idxF] at hr
    simp only [go_sem, hs, rgT, ↓reduceIte, Nat.reduceEqDiff, Nat.reduceAdd, Nat.reduceLeDiff, reduceCtorEq, Nat.reduceLT, Int.reduceLT, Int.reduceLE, Int.reduceEq, Int.reduceToNat, Nat.reduceMul]
    refine Cl_cap (hg r (List.mem_of_getElem? hs)) (by simp [keysOf, stoOf]) (by simp [keysOf]) (by simp [keysOf]) ?_
    cases hp : p r
    · rw [hp, if_neg (by decide)] at hr
      simp only [go_sem, ei, ↓reduceIte, Nat.reduceEqDiff, Nat.reduceAdd, Nat.reduceLeDiff, reduceCtorEq, Nat.reduceLT, Int.reduceLT, Int.reduceLE, Int.reduceEq, Int.reduceToNat, Nat.reduceMul]
      exact rd_of (i + 1) (by first | omega | (simp only; omega)) ⟨by first | omega | (simp only; omega), hr⟩ (subL [] [] (by simp [envS, go_sem, wkV, wkL, AV.ids, idsL, keysOf, ren, stoOf, slTrees, AV.asOwn, rowPart, AV.isNil] <;> assumption) (by simp [stoS, go_sem, wkV, wkL, wkO, AV.ids, Ob.ids, idsL, keysOf, ren, AV.one, stoOf, slTrees, AV.asOwn, rowPart, AV.isNil] <;> assumption) (by simp [keysOf, ren]) (by simp [stoOf, keysOf, ren]) (by simp [keysOf, ren]) (by simp [keysOf, ren]))
    · rw [hp, if_pos rfl] at hr
      simp only [go_sem, ↓reduceIte, Nat.reduceEqDiff, Nat.reduceAdd, Nat.reduceLeDiff, reduceCtorEq, Nat.reduceLT, Int.reduceLT, Int.reduceLE, Int.reduceEq, Int.reduceToNat, Nat.reduceMul]
      refine wends2 [] [] (by first | exact Or.inl rfl | exact Or.inr rfl) ?_ (by simp [AV.ids, idsL, keysOf]) (by simp [stoS, wkO, ls_cons, ls_nil, stoOf, ren, keysOf, Ob.ids, wkV, wkL, AV.one, idsL, AV.ids] <;> assumption) (by simp [keysOf, ren]) (by simp [stoOf, keysOf, ren]) (by simp [keysOf, ren]) (by simp [keysOf, ren])
      simp only [go_sem, r_slices_IndexFunc_Sapi_Ring_api_Ring, exists_eq_left', Option.some.injEq, ↓reduceIte, Nat.reduceEqDiff, Nat.reduceAdd, Nat.reduceLeDiff, reduceCtorEq, Nat.reduceLT, Int.reduceLT, Int.reduceLE, Int.reduceEq, Int.reduceToNat, Nat.reduceMul]
      simp [wkV, wkL, slTrees, AV.asOwn, rowPart, stoOf, AV.isNil, hr]
  · have e : i = l.length := by simp at h; omega
    subst e
    rw [List.drop_length] at hr
    simp only [idxF] at hr
    simp only [go_sem, ↓reduceIte, Nat.reduceEqDiff, Nat.reduceAdd, Nat.reduceLeDiff, reduceCtorEq, Nat.reduceLT, Int.reduceLT, Int.reduceLE, Int.reduceEq, Int.reduceToNat, Nat.reduceMul]
    refine wends2 [] [] (by first | exact Or.inl rfl | exact Or.inr rfl) ?_ (by simp [AV.ids, idsL, keysOf]) (by simp [stoS, wkO, ls_cons, ls_nil, stoOf, ren, keysOf, Ob.ids, wkV, wkL, AV.one, idsL, AV.ids] <;> assumption) (by simp [keysOf, ren]) (by simp [stoOf, keysOf, ren]) (by simp [keysOf, ren]) (by simp [keysOf, ren])
    simp only [go_sem, r_slices_IndexFunc_Sapi_Ring_api_Ring, exists_eq_left', Option.some.injEq, ↓reduceIte, Nat.reduceEqDiff, Nat.reduceAdd, Nat.reduceLeDiff, reduceCtorEq, Nat.reduceLT, Int.reduceLT, Int.reduceLE, Int.reduceEq, Int.reduceToNat, Nat.reduceMul]
    simp [wkV, wkL, slTrees, AV.asOwn, rowPart, stoOf, AV.isNil, hr]

theorem f_ladder_Accept_1 (w : Int) (l : List Slot) (t v now : Int) (h : ringB w l = true) (ht : timedB t = true) (hn : timedB now = true) :
    Meets Tryz.prog E0 n_ladder_Accept_1 [ringV w l, .ptr 0 0, .ptr 1 0] [(0, .box [I t, I v]), (1, .box [I now])] (Bo (rchsB (w, l) t now)) [(0, .box [I t, I v]), (1, .box [I now])] := by
  refine m_ladder_Accept_1 (by simp) (shut_of (by simp [idsL, AV.ids, keysOf]) (by simp [Ob.live, Ob.ids, keysOf, idsL, AV.ids])) (shut_of (by simp [idsL, AV.ids, keysOf]) (by simp [Ob.live, Ob.ids, keysOf, idsL, AV.ids])) (by simp [keysOf]) (by simp [keysOf]) ?_
  simp only [go_sem, s_ladder_Accept_1, ↓reduceIte, Nat.reduceEqDiff, Nat.reduceAdd, Nat.reduceLeDiff, reduceCtorEq, Nat.reduceLT, Int.reduceLT, Int.reduceLE, Int.reduceEq, Int.reduceToNat, Nat.reduceMul]
  refine Cl_plain (f_ladder_reaches w l t now h ht hn) ?_
  simp only [go_sem, ↓reduceIte, Nat.reduceEqDiff, Nat.reduceAdd, Nat.reduceLeDiff, reduceCtorEq, Nat.reduceLT, Int.reduceLT, Int.reduceLE, Int.reduceEq, Int.reduceToNat, Nat.reduceMul]
  refine wends2 [] [] (by first | exact Or.inl rfl | exact Or.inr rfl) ?_ (by simp [AV.ids, idsL, keysOf]) (by simp [stoS, wkO, ls_cons, ls_nil, stoOf, ren, keysOf, Ob.ids, wkV, wkL, AV.one, idsL, AV.ids] <;> assumption) (by simp [keysOf, ren]) (by simp [stoOf, keysOf, ren]) (by simp [keysOf, ren]) (by simp [keysOf, ren])
  simp only [go_sem, r_ladder_Accept_1, exists_eq_left', Option.some.injEq, ↓reduceIte, Nat.reduceEqDiff, Nat.reduceAdd, Nat.reduceLeDiff, reduceCtorEq, Nat.reduceLT, Int.reduceLT, Int.reduceLE, Int.reduceEq, Int.reduceToNat, Nat.reduceMul]
  simp [wkV, wkL, slTrees, AV.asOwn, rowPart, stoOf, AV.isNil]

theorem f_CloneR_own (id : Nat) (e : List T) (es : List (List T)) (hl : es.length ≤ 100000) : Meets Tryz.prog E0 n_slices_Clone_Sapi_Ring_api_Ring [.t (.sl 2 (e :: es))] [] (.own id 2 0 (es.length + 1) true) [(id, .row 2 true (e :: es))] :=
  have h0 : Meets Tryz.prog E0 n_slices_Clone_Sapi_Ring_api_Ring [.t (.sl 2 (e :: es))] [] (.own 0 2 0 (es.length + 1) true) [(0, .row 2 true (e :: es))] := by
    have h1 : (es.length + 1) * 32 ≤ 2 ^ 47 := by omega
    have h2 : es.length + 1 < 2 ^ 47 := by omega
    refine m_slices_Clone_Sapi_Ring_api_Ring (by simp) (shut_of (by simp [idsL, AV.ids, keysOf]) (by simp [Ob.live, Ob.ids, keysOf, idsL, AV.ids])) (shut_of (by simp [idsL, AV.ids, keysOf]) (by simp [Ob.live, Ob.ids, keysOf, idsL, AV.ids])) (by simp [keysOf]) (by simp [keysOf]) ?_
    simp only [go_sem, s_slices_Clone_Sapi_Ring_api_Ring, h1, h2, ↓reduceIte, Nat.reduceEqDiff, Nat.reduceAdd, Nat.reduceLeDiff, reduceCtorEq, Nat.reduceLT, Int.reduceLT, Int.reduceLE, Int.reduceEq, Int.reduceToNat, Nat.reduceMul]
    refine wends2 [(0, 106)] [] (by first | exact Or.inl rfl | exact Or.inr rfl) ?_ (by simp [AV.ids, idsL, keysOf]) (by simp [stoS, wkO, ls_cons, ls_nil, stoOf, ren, keysOf, Ob.ids, wkV, wkL, AV.one, idsL, AV.ids] <;> assumption) (by simp [keysOf, ren]) (by simp [stoOf, keysOf, ren]) (by simp [keysOf, ren]) (by simp [keysOf, ren])
    simp only [go_sem, r_slices_Clone_Sapi_Ring_api_Ring, exists_eq_left', Option.some.injEq, ↓reduceIte, Nat.reduceEqDiff, Nat.reduceAdd, Nat.reduceLeDiff, reduceCtorEq, Nat.reduceLT, Int.reduceLT, Int.reduceLE, Int.reduceEq, Int.reduceToNat, Nat.reduceMul]
    simp [wkV, wkL, slTrees, AV.asOwn, rowPart, stoOf, AV.isNil, ren]
  have := h0.ren (fun _ => id) (by simp [keysOf])
  by simpa [renL, renA, renS, renO] using this

/-- The values of parts of a coarser slot. -/
def partsM (r : Ring) (slot : Int) : Nat → List Int
  | 0 => []
  | n + 1 => partsM r slot n ++ (if (getM r.1 r.2 (slot + (n : Int) * r.1)).1 then [] else [(getM r.1 r.2 (slot + (n : Int) * r.1)).2])
def coarM (m f : Int) (r : Ring) (slot step : Int) : Option Int :=
  if ((partsM r slot (step / r.1).toNat).length : Int) * 1000000 < f * (step / r.1) then none else blendM m (partsM r slot (step / r.1).toNat)
/-- Values that fit. -/
def InS (l : List Slot) : Prop := ∀ s ∈ l, -9223372036854775808 ≤ s.2 ∧ s.2 < 9223372036854775808

theorem get_in {w : Int} {l : List Slot} (h : InS l) (t : Int) : -9223372036854775808 ≤ (getM w l t).2 ∧ (getM w l t).2 < 9223372036854775808 := by
  have hv : -9223372036854775808 ≤ (valueM w l (t - t % w)).2 ∧ (valueM w l (t - t % w)).2 < 9223372036854775808 := by
    unfold valueM
    split
    · rename_i s hs
      have := h s (List.mem_of_getElem? hs)
      split <;> simp_all
    · simp
  unfold getM
  split
  · exact hv
  · simp

theorem parts_in {r : Ring} (h : InS r.2) (slot : Int) : ∀ n, InL (partsM r slot n)
  | 0 => by intro v hv; simp [partsM] at hv
  | n + 1 => by
    intro v hv
    simp only [partsM, List.mem_append] at hv
    rcases hv with hv | hv
    · exact parts_in h slot n v hv
    · split at hv
      · simp at hv
      · simp at hv; subst hv; exact get_in h _

theorem parts_len (r : Ring) (slot : Int) : ∀ n, (partsM r slot n).length ≤ n
  | 0 => by simp [partsM]
  | n + 1 => by
    have := parts_len r slot n
    simp only [partsM, List.length_append]
    split <;> simp <;> omega

theorem f_ladder_coarser (m f : Int) (rs : List Ring) (r : Ring) (slot step : Int) (hh : howB m f = true) (h : ringB r.1 r.2 = true) (hi : InS r.2) (h1 : 0 ≤ slot) (h2 : slot ≤ 1099511627776) (h3 : 1 ≤ step) (h4 : step ≤ 86400) :
    Meets Tryz.prog E0 n_ladder_coarser [ladV m f rs, ringV r.1 r.2, I slot, I step] [] (NO (coarM m f r slot step)) [] := by
  refine m_ladder_coarser (by simp) (shut0 rfl) (shut0 rfl) (by simp) (by simp [keysOf]) ?_
  obtain ⟨w1, w2, _⟩ := ring_bd h
  obtain ⟨w, l⟩ := r
  simp only at w1 w2
  have hw0 : ¬ w = 0 := by omega
  have hh' : 0 ≤ f ∧ f ≤ 1000000 := by simp [howB] at hh; omega
  have q1 : step.tdiv w = step / w := sdiv (by omega)
  have q2 : 0 ≤ step / w := Int.ediv_nonneg (by omega) (by omega)
  have q3 : step / w ≤ step := Int.ediv_le_self _ (by omega)
  have q4 : IntKind.i64.wrap (step / w) = step / w := wrap_i64_of (by omega) (by omega)
  have q5 : step / w * w ≤ step := Int.ediv_mul_le _ hw0
  have q6 : 0 ≤ f * (step / w) := Int.mul_nonneg hh'.1 q2
  have q7 : f * (step / w) ≤ 1000000 * 86400 := Int.mul_le_mul hh'.2 (by omega) q2 (by omega)
  have q8 : IntKind.i64.wrap (f * (step / w)) = f * (step / w) := wrap_i64_of (by omega) (by omega)
  unfold coarM
  simp only
  obtain ⟨n, hn⟩ : ∃ n : Nat, step / w = (n : Int) := ⟨(step / w).toNat, by omega⟩
  simp only [go_sem, s_ladder_coarser, i64_quo hw0, q1, q4, ↓reduceIte, Nat.reduceEqDiff, Nat.reduceAdd, Nat.reduceLeDiff, reduceCtorEq, Nat.reduceLT, Int.reduceLT, Int.reduceLE, Int.reduceEq, Int.reduceToNat, Nat.reduceMul]
  rw [hn] at q2 q3 q5 q6 q7 q8 ⊢
  simp only [Int.toNat_natCast]
  refine W_loop (fun i : Nat => n - i) (fun i => i ≤ n)
    (fun i => [(2, I slot), (3, I step), (4, .ptr 100 0), (5, .ptr 101 0), (8, .ptr 102 0), (9, .own 999 1 0 (partsM (w, l) slot i).length (!(partsM (w, l) slot i).isEmpty)), (10, I n), (17, I n), (18, I i)])
    (fun i => [(100, .box [I m, I f, rgL rs]), (101, .box [I w, slL l]), (102, .box [Bo false, I 0]), (999, .row 1 (!(partsM (w, l) slot i).isEmpty) ((partsM (w, l) slot i).map iT))]) 0 (Nat.zero_le _) ?_ ?_
  · rw [show partsM (w, l) slot 0 = [] from rfl]
    exact (subL [(999, 888)] [] (by simp [envS, go_sem, wkV, wkL, AV.ids, idsL, keysOf, ren, stoOf, slTrees, AV.asOwn, rowPart, AV.isNil] <;> assumption) (by simp [stoS, go_sem, wkV, wkL, wkO, AV.ids, Ob.ids, idsL, keysOf, ren, AV.one, stoOf, slTrees, AV.asOwn, rowPart, AV.isNil] <;> assumption) (by simp [keysOf, ren]) (by simp [stoOf, keysOf, ren]) (by simp [keysOf, ren]) (by simp [keysOf, ren]))
  intro i hin
  simp only [go_sem, ↓reduceIte, Nat.reduceEqDiff, Nat.reduceAdd, Nat.reduceLeDiff, reduceCtorEq, Nat.reduceLT, Int.reduceLT, Int.reduceLE, Int.reduceEq, Int.reduceToNat, Nat.reduceMul]
  refine W_split rfl (fun hlt => ?_) (fun hlt => ?_)
  · simp at hlt
    have ei : IntKind.i64.wrap ((i : Int) + 1) = ((i + 1 : Nat) : Int) := by rw [wrap_i64_of (by omega) (by omega)]; omega
    have m1 : 0 ≤ (i : Int) * w := Int.mul_nonneg (by omega) (by omega)
    have m2 : (i : Int) * w ≤ (n : Int) * w := Int.mul_le_mul_of_nonneg_right (by omega) (by omega)
    have e1 : IntKind.i64.wrap ((i : Int) * w) = (i : Int) * w := wrap_i64_of (by omega) (by omega)
    have e2 : IntKind.i64.wrap (slot + (i : Int) * w) = slot + (i : Int) * w := wrap_i64_of (by omega) (by omega)
    have hpl := parts_len (w, l) slot i
    have b1 : ((partsM (w, l) slot i).length + 1) * 8 ≤ 2 ^ 47 := by omega
    have b2 : (partsM (w, l) slot i).length + 1 < 2 ^ 47 := by omega
    simp only [go_sem, e1, e2, ↓reduceIte, Nat.reduceEqDiff, Nat.reduceAdd, Nat.reduceLeDiff, reduceCtorEq, Nat.reduceLT, Int.reduceLT, Int.reduceLE, Int.reduceEq, Int.reduceToNat, Nat.reduceMul]
    refine Cl_plain (f_ring_Get w (slot + (i : Int) * w) l) ?_
    cases hg : (getM w l (slot + (i : Int) * w)).1
    · have hp : partsM (w, l) slot (i + 1) = partsM (w, l) slot i ++ [(getM w l (slot + (i : Int) * w)).2] := by
        simp only [partsM, hg]; simp
      have em : (partsM (w, l) slot i).map iT ++ [[.v (.int .i64 (getM w l (slot + (i : Int) * w)).2)]] = (partsM (w, l) slot (i + 1)).map iT := by
        rw [hp, List.map_append]; rfl
      have hlen : ((partsM (w, l) slot i).map iT).length = (partsM (w, l) slot i).length := by simp
      have hpl2 : (partsM (w, l) slot (i + 1)).length = (partsM (w, l) slot i).length + 1 := by rw [hp]; simp
      have hpe : (partsM (w, l) slot (i + 1)).isEmpty = false := by rw [hp]; simp
      simp only [go_sem, hg, ↓reduceIte, Nat.reduceEqDiff, Nat.reduceAdd, Nat.reduceLeDiff, reduceCtorEq, Nat.reduceLT, Int.reduceLT, Int.reduceLE, Int.reduceEq, Int.reduceToNat, Nat.reduceMul]
      ((try (with_reducible refine R_fin (by repeat' (first | exact okp0 | refine okp rfl rfl rfl ?_)) ?_)); (try simp only [go_sem, ↓reduceIte, Nat.reduceEqDiff, Nat.reduceAdd, Nat.reduceLeDiff, reduceCtorEq, Nat.reduceLT, Int.reduceLT, Int.reduceLE, Int.reduceEq, Int.reduceToNat, Nat.reduceMul]))
      simp only [go_sem, b1, b2, em, hlen, ei, ↓reduceIte, Nat.reduceEqDiff, Nat.reduceAdd, Nat.reduceLeDiff, reduceCtorEq, Nat.reduceLT, Int.reduceLT, Int.reduceLE, Int.reduceEq, Int.reduceToNat, Nat.reduceMul]
      refine rd_of (i + 1) (by first | omega | (simp only; omega)) (by first | omega | (simp only; omega)) ?_
      rw [hpl2, hpe]
      exact (subL [(999, 131)] [] (by simp [envS, go_sem, wkV, wkL, AV.ids, idsL, keysOf, ren, stoOf, slTrees, AV.asOwn, rowPart, AV.isNil] <;> assumption) (by simp [stoS, go_sem, wkV, wkL, wkO, AV.ids, Ob.ids, idsL, keysOf, ren, AV.one, stoOf, slTrees, AV.asOwn, rowPart, AV.isNil] <;> assumption) (by simp [keysOf, ren]) (by simp [stoOf, keysOf, ren]) (by simp [keysOf, ren]) (by simp [keysOf, ren]))
    · have hp : partsM (w, l) slot (i + 1) = partsM (w, l) slot i := by
        simp only [partsM, hg]; simp
      simp only [go_sem, hg, ei, ↓reduceIte, Nat.reduceEqDiff, Nat.reduceAdd, Nat.reduceLeDiff, reduceCtorEq, Nat.reduceLT, Int.reduceLT, Int.reduceLE, Int.reduceEq, Int.reduceToNat, Nat.reduceMul]
      refine rd_of (i + 1) (by first | omega | (simp only; omega)) (by first | omega | (simp only; omega)) ?_
      rw [hp]
      exact (subL [] [] (by simp [envS, go_sem, wkV, wkL, AV.ids, idsL, keysOf, ren, stoOf, slTrees, AV.asOwn, rowPart, AV.isNil] <;> assumption) (by simp [stoS, go_sem, wkV, wkL, wkO, AV.ids, Ob.ids, idsL, keysOf, ren, AV.one, stoOf, slTrees, AV.asOwn, rowPart, AV.isNil] <;> assumption) (by simp [keysOf, ren]) (by simp [stoOf, keysOf, ren]) (by simp [keysOf, ren]) (by simp [keysOf, ren]))
  · have e : i = n := by simp at hlt; omega
    subst e
    have hpl := parts_len (w, l) slot i
    have hpi := parts_in (r := (w, l)) hi slot i
    generalize partsM (w, l) slot i = ps at *
    have e1 : IntKind.i64.wrap ((ps.length : Int) * 1000000) = (ps.length : Int) * 1000000 := wrap_i64_of (by omega) (by omega)
    cases hc : decide ((ps.length : Int) * 1000000 < f * (i : Int))
    · rw [if_neg (of_decide_eq_false hc)]
      have b1 := f_ladder_Blend m ps hpi (by unfold maxLen; omega)
      simp only [go_sem, e1, q8, hc, ↓reduceIte, Nat.reduceEqDiff, Nat.reduceAdd, Nat.reduceLeDiff, reduceCtorEq, Nat.reduceLT, Int.reduceLT, Int.reduceLE, Int.reduceEq, Int.reduceToNat, Nat.reduceMul]
      cases ps with
      | nil =>
        refine Cl_keep [] b1 ?_ (by simp) rfl ?_
        · exact .one (Wk.refl _) (.one (Wk.gone (by simp [slTrees, AV.asOwn, rowPart, stoOf]) (by simp [stoOf]; rfl)) .nil)
        simp only [go_sem, ↓reduceIte, Nat.reduceEqDiff, Nat.reduceAdd, Nat.reduceLeDiff, reduceCtorEq, Nat.reduceLT, Int.reduceLT, Int.reduceLE, Int.reduceEq, Int.reduceToNat, Nat.reduceMul]
        refine wends (by first | exact Or.inl rfl | exact Or.inr rfl) ?_ (by first | rfl | simp [AV.ids, idsL])
        simp only [go_sem, r_ladder_coarser, ↓reduceIte, Nat.reduceEqDiff, Nat.reduceAdd, Nat.reduceLeDiff, reduceCtorEq, Nat.reduceLT, Int.reduceLT, Int.reduceLE, Int.reduceEq, Int.reduceToNat, Nat.reduceMul]
      | cons p0 ps =>
        refine Cl_keep [999] b1 ?_ (by simp [stoOf]) rfl ?_
        · exact .one (Wk.refl _) (.one (Wk.row (by simp [slTrees, AV.asOwn, rowPart, stoOf, List.take_of_length_le]) (by simp)) .nil)
        simp only [go_sem, ↓reduceIte, Nat.reduceEqDiff, Nat.reduceAdd, Nat.reduceLeDiff, reduceCtorEq, Nat.reduceLT, Int.reduceLT, Int.reduceLE, Int.reduceEq, Int.reduceToNat, Nat.reduceMul]
        refine wends (by first | exact Or.inl rfl | exact Or.inr rfl) ?_ (by first | rfl | simp [AV.ids, idsL])
        simp only [go_sem, r_ladder_coarser, ↓reduceIte, Nat.reduceEqDiff, Nat.reduceAdd, Nat.reduceLeDiff, reduceCtorEq, Nat.reduceLT, Int.reduceLT, Int.reduceLE, Int.reduceEq, Int.reduceToNat, Nat.reduceMul]
    · rw [if_pos (of_decide_eq_true hc)]
      simp only [go_sem, e1, q8, hc, ↓reduceIte, Nat.reduceEqDiff, Nat.reduceAdd, Nat.reduceLeDiff, reduceCtorEq, Nat.reduceLT, Int.reduceLT, Int.reduceLE, Int.reduceEq, Int.reduceToNat, Nat.reduceMul]
      refine wends (by first | exact Or.inl rfl | exact Or.inr rfl) ?_ (by first | rfl | simp [AV.ids, idsL])
      simp only [go_sem, r_ladder_coarser, ↓reduceIte, Nat.reduceEqDiff, Nat.reduceAdd, Nat.reduceLeDiff, reduceCtorEq, Nat.reduceLT, Int.reduceLT, Int.reduceLE, Int.reduceEq, Int.reduceToNat, Nat.reduceMul]
      rfl

end Go.Proofs.YtmjlldlaigoflaaGreat
