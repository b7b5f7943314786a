/- The contract of the law on accepted points. No statement of the seat is proved here. -/
import Derived.Test.YtmjlldlaigoflaaGreatLdLaw
import Derived.Test.YtmjlldlaigoflaaGreatLdRefAcc
set_option linter.unusedSimpArgs false
set_option linter.unusedVariables false
namespace Go.Proofs.YtmjlldlaigoflaaGreat
open Go Go.Sx

def grF : List Ring → Int → Bool
  | [], n => decide (3000 < n)
  | r :: l, n => if n ≤ 3000 then grF l (n + (r.2.length : Int)) else true

theorem gr_big {n : Int} (h : 3000 < n) : ∀ l, grF l n = true
  | [] => by simp [grF, h]
  | r :: l => by simp only [grF]; rw [if_neg (by omega)]

theorem gr_small : ∀ {l : List Ring} {n : Int}, grF l n = false → n ≤ 3000 ∧ (0 ≤ n → ∀ r ∈ l, r.2.length ≤ 3000)
  | [], n, h => by simp [grF] at h; exact ⟨h, by simp⟩
  | r :: l, n, h => by
    simp only [grF] at h
    by_cases hn : n ≤ 3000
    · rw [if_pos hn] at h
      have := gr_small h
      refine ⟨hn, fun h0 x hx => ?_⟩
      rcases List.mem_cons.1 hx with rfl | hx
      · omega
      · exact this.2 (by omega) x hx
    · rw [if_neg hn] at h; cases h

theorem f_law14_great (m f : Int) (l : List Ring) (hn : l.length ≤ reachBytes) (hr : ∀ r ∈ l, r.2.length ≤ reachBytes) : Meets Tryz.prog E0 n_law14_great [ladV m f l] [] (Bo (grF l (l.length : Int))) [] := by
  refine m_law14_great (by simp) (shut0 rfl) (shut0 rfl) (by simp) (by simp [keysOf]) ?_
  have hrb : reachBytes = 140737488351232 := rfl
  generalize hout : grF l (l.length : Int) = out
  simp only [go_sem, s_law14_great, ↓reduceIte, Nat.reduceEqDiff, Nat.reduceAdd, Nat.reduceLeDiff, reduceCtorEq, Nat.reduceLT, Int.reduceLT, Int.reduceLE, Int.reduceEq, Int.reduceToNat, Nat.reduceMul]
  refine W_loop (fun x : Nat × Int => l.length - x.1) (fun x => x.1 ≤ l.length ∧ 0 ≤ x.2 ∧ x.2 ≤ 281474976710656 ∧ grF (l.drop x.1) x.2 = out)
    (fun x => [(1, .ptr 100 0), (3, I x.2), (4, I x.1)])
    (fun x => [(100, .box [I m, I f, rgL l])]) (0, (l.length : Int)) ⟨Nat.zero_le _, by simp only; omega, by simp only; omega, by simpa using hout⟩ (subL [] [] (by simp [envS, go_sem, wkV, wkL, AV.ids, idsL, keysOf, ren]) (by simp [stoS, go_sem, wkV, wkL, wkO, AV.ids, Ob.ids, idsL, keysOf, ren, AV.one]) (by simp [keysOf, ren]) (by simp) (by simp [keysOf]) (by simp [keysOf])) ?_
  rintro ⟨i, n⟩ ⟨hi, h0, h1, h2⟩
  simp only at hi h0 h1 h2
  by_cases hi2 : i < l.length
  · obtain ⟨r, hs⟩ := get_of_lt hi2
    have d1 : decide (i < l.length) = true := decide_eq_true hi2
    have hrl := hr r (List.mem_of_getElem? hs)
    have ei : IntKind.i64.wrap ((i : Int) + 1) = ((i + 1 : Nat) : Int) := by rw [wrap_i64_of (by omega) (by omega)]; omega
    rw [drop_get hs] at h2
    simp only [grF] at h2
    by_cases h3 : n ≤ 3000
    · rw [if_pos h3] at h2
      have d2 : decide (n ≤ 3000) = true := decide_eq_true h3
      have en : IntKind.i64.wrap (n + (r.2.length : Int)) = n + (r.2.length : Int) := wrap_i64_of (by omega) (by omega)
      simp only [go_sem, d1, d2, hs, rgT, en, ei, ↓reduceIte, Nat.reduceEqDiff, Nat.reduceAdd, Nat.reduceLeDiff, reduceCtorEq, Nat.reduceLT, Int.reduceLT, Int.reduceLE, Int.reduceEq, Int.reduceToNat, Nat.reduceMul]
      exact rd_of (i + 1, n + (r.2.length : Int)) (by simp only; omega) ⟨by simp only; omega, by simp only; omega, by simp only; omega, h2⟩ (subL [] [] (by simp [envS, go_sem, wkV, wkL, AV.ids, idsL, keysOf, ren]) (by simp [stoS, go_sem, wkV, wkL, wkO, AV.ids, Ob.ids, idsL, keysOf, ren, AV.one]) (by simp [keysOf, ren]) (by simp) (by simp [keysOf]) (by simp [keysOf]))
    · rw [if_neg h3] at h2
      have d2 : decide (n ≤ 3000) = false := decide_eq_false h3
      have d3 : decide (3000 < n) = true := decide_eq_true (by omega)
      simp only [go_sem, d1, d2, d3, ↓reduceIte, Nat.reduceEqDiff, Nat.reduceAdd, Nat.reduceLeDiff, reduceCtorEq, Nat.reduceLT, Int.reduceLT, Int.reduceLE, Int.reduceEq, Int.reduceToNat, Nat.reduceMul]
      refine wends (by first | exact Or.inl rfl | exact Or.inr rfl) ?_ (by first | rfl | simp [AV.ids, idsL])
      simp only [go_sem, r_law14_great, h2, ↓reduceIte, Nat.reduceEqDiff, Nat.reduceAdd, Nat.reduceLeDiff, reduceCtorEq, Nat.reduceLT, Int.reduceLT, Int.reduceLE, Int.reduceEq, Int.reduceToNat, Nat.reduceMul]
  · have e : i = l.length := by omega
    subst e
    have d1 : decide (l.length < l.length) = false := by simp
    rw [List.drop_length] at h2
    simp only [grF] at h2
    simp only [go_sem, d1, ↓reduceIte, Nat.reduceEqDiff, Nat.reduceAdd, Nat.reduceLeDiff, reduceCtorEq, Nat.reduceLT, Int.reduceLT, Int.reduceLE, Int.reduceEq, Int.reduceToNat, Nat.reduceMul]
    refine wends (by first | exact Or.inl rfl | exact Or.inr rfl) ?_ (by first | rfl | simp [AV.ids, idsL])
    simp only [go_sem, r_law14_great, h2, ↓reduceIte, Nat.reduceEqDiff, Nat.reduceAdd, Nat.reduceLeDiff, reduceCtorEq, Nat.reduceLT, Int.reduceLT, Int.reduceLE, Int.reduceEq, Int.reduceToNat, Nat.reduceMul]

theorem step_good {m f : Int} {p r : Ring} {t now : Int} (hp : goodR p) (hr : goodR r) (ht : timedB t = true) : goodR (stepR m f p r t now) := by
  unfold stepR
  split
  · split
    · exact hr
    · rename_i v hv
      have := coar_rt (m := m) (f := f) hp.2 v hv
      exact (set_good hr ht this.1 this.2).1
  · exact hr

theorem step_rung (m f : Int) (p r : Ring) (t now : Int) : rungM (stepR m f p r t now) = rungM r := by
  unfold stepR
  split
  · split
    · rfl
    · exact rung_set _ _ _
  · rfl

theorem up_good {m f t now : Int} (ht : timedB t = true) : ∀ {l : List Ring} {p : Ring}, goodR p → (∀ x ∈ l, goodR x) → ∀ x ∈ upM m f t now p l, goodR x
  | [], p, _, _ => by simp [upM]
  | r :: l, p, hp, hl => by
    have h1 := step_good (m := m) (f := f) (now := now) hp (hl r (by simp)) ht
    intro x hx
    simp only [upM] at hx
    rcases List.mem_cons.1 hx with rfl | hx
    · exact h1
    · exact up_good ht h1 (fun y hy => hl y (by simp [hy])) x hx

theorem up_rung (m f t now : Int) : ∀ (l : List Ring) (p : Ring), (upM m f t now p l).map rungM = l.map rungM
  | [], p => rfl
  | r :: l, p => by simp only [upM, List.map_cons, step_rung, up_rung m f t now l]

theorem acc_good {m f t v now : Int} (ht : timedB t = true) (h1 : -9223372036854775808 < v) (h2 : v < 9223372036854775808) : ∀ {l l' : List Ring}, (∀ x ∈ l, goodR x) → accL m f t v now l = some l' → (∀ x ∈ l', goodR x)
  | [], l', _, h => by simp [accL] at h
  | r :: l, l', hl, h => by
    simp only [accL] at h
    split at h
    · injection h with h; subst h
      have hg := (set_good (hl r (by simp)) ht h1 h2).1
      intro x hx
      rcases List.mem_cons.1 hx with rfl | hx
      · exact hg
      · exact up_good ht hg (fun y hy => hl y (by simp [hy])) x hx
    · obtain ⟨l2, hl2, rfl⟩ := Option.map_eq_some_iff.1 h
      intro x hx
      rcases List.mem_cons.1 hx with rfl | hx
      · exact hl _ (by simp)
      · exact acc_good ht h1 h2 (fun y hy => hl y (by simp [hy])) hl2 x hx

theorem acc_rung {m f t v now : Int} : ∀ {l l' : List Ring}, accL m f t v now l = some l' → l'.map rungM = l.map rungM
  | [], l', h => by simp [accL] at h
  | r :: l, l', h => by
    simp only [accL] at h
    split at h
    · injection h with h; subst h
      simp only [List.map_cons, rung_set, up_rung]
    · obtain ⟨l2, hl2, rfl⟩ := Option.map_eq_some_iff.1 h
      simp only [List.map_cons, acc_rung hl2]

theorem accM_rung (m f : Int) (rs : List Ring) (t v now : Int) : (accM m f rs t v now).1.map rungM = rs.map rungM := by
  unfold accM
  split
  · split
    · rfl
    · split
      · rfl
      · rename_i l hl
        exact acc_rung hl
  · rfl

theorem rung_len {a b : List Ring} (h : a.map rungM = b.map rungM) {k : Nat} (hb : ∀ r ∈ b, r.2.length ≤ k) : a.length = b.length ∧ ∀ r ∈ a, r.2.length ≤ k := by
  have hl : a.length = b.length := by have := congrArg List.length h; simpa using this
  refine ⟨hl, fun r hr => ?_⟩
  have hm : rungM r ∈ b.map rungM := by rw [← h]; exact List.mem_map.2 ⟨r, hr, rfl⟩
  obtain ⟨s, hs, e⟩ := List.mem_map.1 hm
  have e2 : (s.2.length : Int) = (r.2.length : Int) := congrArg Prod.snd e
  have := hb s hs
  omega

/-- What is accepted leaves a ladder. -/
theorem accM_right {m f : Int} {rs : List Ring} {t v now : Int} (hs : ∀ r ∈ rs, InS r.2) (hv : -9223372036854775808 ≤ v ∧ v < 9223372036854775808) (h : (accM m f rs t v now).2 = 0) : ladB m f (accM m f rs t v now).1 = true := by
  have hr := accM_rung m f rs t v now
  generalize hA : accM m f rs t v now = A at h hr ⊢
  unfold accM at hA
  split at hA
  · rename_i hc
    simp only [Bool.and_eq_true, Bool.not_eq_true', decide_eq_false_iff_not] at hc
    split at hA
    · subst hA; cases h
    · rename_i hlt
      split at hA
      · subst hA; cases h
      · rename_i l hl
        subst hA
        simp only at hr ⊢
        obtain ⟨p1, p2, p3, _, _⟩ := lad_parts hc.2
        have hg := acc_good hc.1.1.1 (by omega) hv.2 (fun x hx => ⟨List.all_eq_true.1 p2 x hx, hs x hx⟩) hl
        simp only [ladB, p1, Bool.true_and, Bool.and_eq_true, hr, p3, and_true]
        exact List.all_eq_true.2 (fun x hx => (hg x hx).1)
  · subst hA; cases h

end Go.Proofs.YtmjlldlaigoflaaGreat
