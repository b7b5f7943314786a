/- What is told of a ring is what was accepted last, in plain words. No statement of the seat is proved here. -/
import Derived.Test.YtmjlldlaigoflaaLdNewM
import Derived.Test.YtmjlldlaigoflaaLdFetch2
import Derived.Test.YtmjlldlaigoflaaLdLaw
set_option linter.unusedSimpArgs false
set_option linter.unusedVariables false
namespace Go.Proofs.Ytmjlldlaigoflaa
open Go Go.Sx

abbrev Pt := Int × Int
/-- The last of points that has a slot. -/
def lastP (w : Int) (ps : List Pt) (T : Int) : Num := ps.foldl (fun acc p => if p.1 - p.1 % w = T then (false, p.2) else acc) (true, 0)

theorem lastP_add (w : Int) (ps : List Pt) (p : Pt) (T : Int) : lastP w (ps ++ [p]) T = if p.1 - p.1 % w = T then (false, p.2) else lastP w ps T := by
  unfold lastP; rw [List.foldl_append]; rfl

theorem lastP_none {w T : Int} : ∀ {ps : List Pt} (_ : ∀ p ∈ ps, p.1 - p.1 % w ≠ T) (acc : Num), ps.foldl (fun acc p => if p.1 - p.1 % w = T then (false, p.2) else acc) acc = acc
  | [], _, _ => rfl
  | p :: ps, h, acc => by
    simp only [List.foldl_cons]
    rw [if_neg (h p (by simp))]
    exact lastP_none (fun q hq => h q (by simp [hq])) acc

structure Kept (w n now : Int) (r : Ring) (ps : List Pt) : Prop where
  good : goodR r
  e1 : r.1 = w
  e2 : (r.2.length : Int) = n
  past : ∀ s ∈ r.2, s.1 ≤ now
  told : ∀ T, 0 ≤ T → T % w = 0 → now - w * n < T → T ≤ now → valueM w r.2 T = lastP w ps T
  pts : ∀ p ∈ ps, p.1 ≤ now

theorem value_late {w T now : Int} {l : List Slot} (h : ∀ s ∈ l, s.1 ≤ now) (hT : now < T) : valueM w l T = (true, 0) := by
  unfold valueM
  split
  · rename_i s hs
    have := h s (List.mem_of_getElem? hs)
    rw [if_neg (by omega)]
  · rfl

theorem Kept.pos {w n now : Int} {r : Ring} {ps : List Pt} (h : Kept w n now r ps) : 1 ≤ w ∧ w ≤ 86400 ∧ 1 ≤ n ∧ n ≤ 400 ∧ 1 ≤ w * n ∧ w * n ≤ 34560000 := by
  have h1 := ring_bd h.good.1
  have h2 := ringB_sized h.good.1
  rw [h.e1, h.e2] at h1
  rw [h.e1] at h2
  have := h.e2
  omega

theorem Kept.later {w n now now' : Int} {r : Ring} {ps : List Pt} (h : Kept w n now r ps) (hn : now ≤ now') : Kept w n now' r ps where
  good := h.good
  e1 := h.e1
  e2 := h.e2
  past := fun s hs => by have := h.past s hs; omega
  told := fun T h0 hT h1 h2 => by
    obtain ⟨p1, _⟩ := h.pos
    rcases Int.lt_or_le now T with hlt | hle
    · rw [value_late h.past hlt]
      refine (lastP_none (fun p hp => ?_) _).symm
      have := h.pts p hp
      have := Int.emod_nonneg p.1 (show w ≠ 0 by omega)
      omega
    · exact h.told T h0 hT (by omega) hle
  pts := fun p hp => by have := h.pts p hp; omega

theorem Kept.put {w n now t v : Int} {r : Ring} {ps : List Pt} (h : Kept w n now r ps) (ht : timedB t = true) (htn : t ≤ now) (hw : now - w * n < t - t % w) (h1 : -9223372036854775808 < v) (h2 : v < 9223372036854775808) : Kept w n now (setR r t v) (ps ++ [(t, v)]) := by
  obtain ⟨p1, p2, p3, p4, p5, p6⟩ := h.pos
  have hset := setM_ok h.good.1 ht (show v ≠ -9223372036854775808 by omega)
  have hb := slot_bd p1 (timedB_iff.1 ht).1
  have e1 := h.e1
  have hgood := set_good h.good ht h1 h2
  have es : setR r t v = (r.1, r.2.set (placeM w r.2 (t - t % w)) (t - t % w, v)) := by
    unfold setR; rw [hset, e1]
  refine ⟨hgood.1, by rw [es]; exact e1, by rw [es]; simp [h.e2], ?_, ?_, ?_⟩
  · intro s hs
    rw [es] at hs
    rcases List.mem_or_eq_of_mem_set hs with hs | hs
    · exact h.past s hs
    · subst hs; simp only; omega
  · intro T h0 hT k1 k2
    rw [es, lastP_add]
    simp only
    have hl : 0 < r.2.length := by have := h.e2; omega
    rw [value_set hl]
    by_cases he : t - t % w = T
    · subst he; simp
    · rw [if_neg ?_, if_neg he]
      · exact h.told T h0 hT k1 k2
      · unfold placeM
        rw [h.e2]
        have d1 := Int.mul_ediv_add_emod T w
        have d2 := Int.mul_ediv_add_emod (t - t % w) w
        rw [hT] at d1
        rw [hb.2.2] at d2
        have n1 := Int.emod_nonneg (T / w) (show n ≠ 0 by omega)
        have n2 := Int.emod_nonneg ((t - t % w) / w) (show n ≠ 0 by omega)
        generalize T / w = x at *
        generalize (t - t % w) / w = y at *
        have hlt : ∀ x y : Int, y < x → w * x - w * y < w * n → x % n ≠ y % n := by
          intro x y hxy hb
          have : x - y < n := by
            rcases Int.lt_or_le (x - y) n with h | h
            · exact h
            · exfalso
              have := Int.mul_le_mul_of_nonneg_left h (show 0 ≤ w by omega)
              rw [Int.mul_sub] at this
              omega
          have := place_ne (q := y) (c := n) (i := x - y) (j := 0) (by omega) (by omega)
          rw [show y + (x - y) = x by omega, Int.add_zero] at this
          exact fun e => this e.symm
        have hxy : x ≠ y := fun e => he (by rw [← d2, ← d1, e])
        rcases Int.lt_or_le x y with h3 | h3
        · have := hlt y x h3 (by omega); omega
        · have := hlt x y (by omega) (by omega); omega
  · intro p hp
    rcases List.mem_append.1 hp with hp | hp
    · exact h.pts p hp
    · simp at hp; subst hp; exact htn

theorem kept_new {w n : Int} (h : szB (w, n) = true) (now : Int) (hn : 0 ≤ now) : Kept w n now (newR (w, n)) [] where
  good := ring_new_ok h
  e1 := rfl
  e2 := by have := szB_iff.1 h; simp only [newR, List.length_replicate]; simp only at this; omega
  past := fun s hs => by obtain ⟨_, rfl⟩ := List.mem_replicate.1 hs; simp only; omega
  told := fun T h0 hT h1 h2 => by
    have hp : (newR (w, n)).2 = List.replicate n.toNat (-1, 0) := rfl
    rw [hp]
    unfold valueM lastP
    split
    · rename_i s hs2
      obtain ⟨_, rfl⟩ := List.mem_replicate.1 (List.mem_of_getElem? hs2)
      simp only [List.foldl_nil]
      rw [if_neg (by omega)]
    · rfl
  pts := by simp

theorem valL_get (r : Ring) (a : Int) : ∀ (n k : Nat), k < n → (valL r a n)[k]? = some (getM r.1 r.2 ((a + (k : Int)) * r.1))
  | 0, k, h => by omega
  | n + 1, k, h => by
    have hl : (valL r a n).length = n := valL_len r a n
    simp only [valL]
    by_cases hk : k < n
    · rw [List.getElem?_append_left (by omega)]; exact valL_get r a n k hk
    · have : k = n := by omega
      subst this
      rw [List.getElem?_append_right (by omega), hl, Nat.sub_self]; rfl

theorem one_lad {w n now : Int} {r : Ring} {ps : List Pt} (h : Kept w n now r ps) : ladB 5 0 [r] = true := by
  have hr : rungM r = (w, n) := Prod.ext h.e1 h.e2
  obtain ⟨p1, p2, p3, p4, p5, p6⟩ := h.pos
  refine lad_of (rs := [(w, n)]) (by decide) ?_ (by simpa using h.good) (by simp [hr])
  have hs : szB (w, n) = true := szB_iff.2 ⟨p1, p2, p3, p4⟩
  simp [togB, hs, chainB]

/-- A point comes to a ladder of one ring. -/
theorem one_acc {w n now t v : Int} {r : Ring} {ps : List Pt} (h : Kept w n now r ps) (ht : timedB t = true) (hnow : timedB now = true) (htn : t ≤ now) (hv : v < 9223372036854775808) :
    accM 5 0 [r] t v now = if v = -9223372036854775808 then ([r], 1) else if t - t % w ≤ now - w * n then ([r], 14) else ([setR r t v], 0) := by
  have hl := one_lad h
  unfold accM
  by_cases hv0 : v = -9223372036854775808
  · subst hv0
    rw [if_neg (by simp), if_pos rfl]
  · rw [if_pos (by simp [ht, hnow, hl, hv0]), if_neg (by omega), if_neg hv0]
    have hr : rchsB r t now = !decide (t - t % w ≤ now - w * n) := by
      unfold rchsB
      rw [h.e1, h.e2, ← decide_not, decide_eq_decide]; omega
    by_cases hd : t - t % w ≤ now - w * n
    · rw [if_pos hd]; simp [accL, hr, hd]
    · rw [if_neg hd]; simp [accL, hr, hd, upM]

/-- What is fetched of a ladder of one ring. -/
theorem one_fetch {w n now : Int} {r : Ring} {ps : List Pt} (h : Kept w n now r ps) (h0 : 0 ≤ now - w * n) (hnow : now + 1 ≤ 1099511627776) :
    ∃ (F : Int) (N : Nat), fetM 5 0 [r] (now - w * n + 1) (now + 1) now = ((if N = 0 then ceilM w (now - w * n + 1) * w else F * w, w, valL r F N), 0) ∧ (N : Int) ≤ n ∧ 0 ≤ F ∧ (∀ k : Nat, k < N → 0 ≤ (F + (k : Int)) * w ∧ (F + (k : Int)) * w ≤ now ∧ getM r.1 r.2 ((F + (k : Int)) * w) = lastP w ps ((F + (k : Int)) * w)) := by
  obtain ⟨p1, p2, p3, p4, p5, p6⟩ := h.pos
  have hl := one_lad h
  have t1 : timedB (now - w * n + 1) = true := timedB_iff.2 ⟨by omega, by omega⟩
  have t2 : timedB (now + 1) = true := timedB_iff.2 ⟨by omega, by omega⟩
  have t3 : timedB now = true := timedB_iff.2 ⟨by omega, by omega⟩
  have hp : pickL [r] (now - w * n + 1) now = 0 := by
    have hd : decide (now - (now - w * n + 1) ≤ r.1 * (r.2.length : Int)) = true := decide_eq_true (by rw [h.e1, h.e2]; omega)
    have : idxF (fun r => decide (now - (now - w * n + 1) ≤ r.1 * (r.2.length : Int))) [r] 0 = 0 := by simp only [idxF, hd, if_true]; rfl
    unfold pickL
    rw [this, if_neg (by omega)]
  have hN := (num_bd (un := now + 1) h.good.1 (timedB_iff.1 t1).1 (timedB_iff.1 t3).1).1
  have hab := abv_bd (t := now - r.1 * (r.2.length : Int)) (w := r.1) (by rw [h.e1]; omega) (by rw [h.e1, h.e2]; omega)
  have hc := ceil_bd (w := w) (a := now - w * n + 1) p1 (by omega)
  refine ⟨fstM r (now - w * n + 1) now, numM r (now - w * n + 1) (now + 1) now, ?_, ?_, ?_, ?_⟩
  · unfold fetM
    rw [if_pos (by simp [t1, t2, t3, hl]; omega), hp]
    simp only [Int.toNat_zero, List.getElem?_cons_zero, fetR, h.e1]
  · have := h.e2; omega
  · unfold fstM; omega
  · intro k hk
    have hk2 : fstM r (now - w * n + 1) now + (k : Int) < ceilM w (now + 1) := by
      unfold numM at hk
      rw [h.e1, Int.min_self] at hk
      omega
    have k1 := (ceil_lt (w := w) (b := now + 1) (k := fstM r (now - w * n + 1) now + (k : Int)) (by omega)).2 hk2
    have k2 : ceilM w (now - w * n + 1) ≤ fstM r (now - w * n + 1) now + (k : Int) := by unfold fstM; rw [h.e1]; omega
    have k3 := Int.mul_le_mul_of_nonneg_right k2 (show 0 ≤ w by omega)
    refine ⟨by omega, by omega, ?_⟩
    have hm : ((fstM r (now - w * n + 1) now + (k : Int)) * w) % w = 0 := Int.mul_emod_left _ _
    rw [← h.told _ (by omega) hm (by omega) (by omega)]
    have ht : timedB ((fstM r (now - w * n + 1) now + (k : Int)) * w) = true := timedB_iff.2 ⟨by omega, by omega⟩
    have hrg : ringB r.1 r.2 = true := h.good.1
    unfold getM
    rw [hrg, ht, h.e1]
    simp only [Bool.and_self, if_true]
    rw [hm, Int.sub_zero]

end Go.Proofs.Ytmjlldlaigoflaa
