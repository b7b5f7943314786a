/- Where all parts of a coarser slot came one by one, in plain words. No statement of the seat is proved here. -/
import Derived.Test.YtmjlldlaigoflaaGreatLdLaw2
import Derived.Test.YtmjlldlaigoflaaGreatLdNewM
set_option linter.unusedSimpArgs false
set_option linter.unusedVariables false
namespace Go.Proofs.YtmjlldlaigoflaaGreat
open Go Go.Sx

/-- What has been accepted of a coarser slot's parts: the finest ring tells it. -/
structure Came (m f : Int) (rs : List Rung) (a b : Rung) (vs : List Int) (i : Nat) (l : List Ring) : Prop where
  good : ∀ r ∈ l, goodR r
  rung : l.map rungM = rs
  told : ∀ r, l[0]? = some r → ∀ j : Nat, j < i → ∀ v, vs[j]? = some v → valueM a.1 r.2 (4 * b.1 + (j : Int) * a.1) = (false, v)

structure Two (m f : Int) (rs : List Rung) (a b : Rung) : Prop where
  how : howB m f = true
  tog : togB rs = true
  fst : rs[0]? = some a
  snd : rs[1]? = some b

theorem Two.facts {m f : Int} {rs : List Rung} {a b : Rung} (h : Two m f rs a b) : 1 ≤ a.1 ∧ a.1 < b.1 ∧ b.1 ≤ 86400 ∧ b.1 % a.1 = 0 ∧ 1 ≤ a.2 ∧ a.2 ≤ 400 ∧ 1 ≤ b.2 ∧ b.2 ≤ 400 ∧ b.1 / a.1 ≤ a.2 ∧ a.1 * a.2 < b.1 * b.2 ∧ b.1 = a.1 * (b.1 / a.1) ∧ 1 ≤ b.1 / a.1 := by
  have ha := szB_iff.1 (all_get (tog_all h.tog) h.fst)
  have hb := szB_iff.1 (all_get (tog_all h.tog) h.snd)
  have hf := chain_get (tog_chain h.tog) h.fst h.snd
  simp only [flwB, Bool.and_eq_true, decide_eq_true_eq] at hf
  have ra : rchM a = a.1 * a.2 := if_pos (all_get (tog_all h.tog) h.fst)
  have rb : rchM b = b.1 * b.2 := if_pos (all_get (tog_all h.tog) h.snd)
  rw [ra, rb] at hf
  have hd := Int.mul_ediv_add_emod b.1 a.1
  have h1 : 1 ≤ b.1 / a.1 := by
    have := (Int.le_ediv_iff_mul_le (show 0 < a.1 by omega)).2 (show 1 * a.1 ≤ b.1 by omega)
    exact this
  refine ⟨ha.1, hf.1, hb.2.1, hf.2.1, ha.2.2.1, ha.2.2.2, hb.2.2.1, hb.2.2.2, hf.2.2.2, hf.2.2.1, by omega, h1⟩

theorem came_0 {m f : Int} {rs : List Rung} {a b : Rung} {vs : List Int} (h : Two m f rs a b) : Came m f rs a b vs 0 (rs.map newR) where
  good := (map_new_ok (tog_all h.tog)).1
  rung := (map_new_ok (tog_all h.tog)).2
  told := fun r _ j hj => by omega

theorem parts_all {r : Ring} {w slot : Int} {vs : List Int} (hw : r.1 = w) : ∀ n : Nat, n ≤ vs.length → (∀ j : Nat, j < n → ∀ v, vs[j]? = some v → getM r.1 r.2 (slot + (j : Int) * w) = (false, v)) → partsM r slot n = vs.take n
  | 0, _, _ => rfl
  | n + 1, hn, h => by
    have ih := parts_all (slot := slot) (vs := vs) hw n (by omega) (fun j hj => h j (by omega))
    have hg : vs[n]? = some (vs[n]'(by omega)) := List.getElem?_eq_getElem (by omega)
    have := h n (by omega) _ hg
    rw [← hw] at this
    simp only [partsM, ih, this]
    rw [List.take_add_one, hg]
    simp

theorem two_of {l : List Ring} {a b : Rung} {rs : List Rung} (h : l.map rungM = rs) (ha : rs[0]? = some a) (hb : rs[1]? = some b) : ∃ r0 r1 rest, l = r0 :: r1 :: rest ∧ r0.1 = a.1 ∧ (r0.2.length : Int) = a.2 ∧ r1.1 = b.1 ∧ (r1.2.length : Int) = b.2 := by
  subst h
  match l, ha, hb with
  | [], ha, _ => simp at ha
  | [_], _, hb => simp at hb
  | r0 :: r1 :: rest, ha, hb =>
    simp at ha hb
    subst ha hb
    exact ⟨r0, r1, rest, rfl, rfl, rfl, rfl, rfl⟩

/-- One more part comes. -/
theorem came_succ {m f : Int} {rs : List Rung} {a b : Rung} {vs : List Int} {i : Nat} {l : List Ring} {v : Int} (h : Two m f rs a b) (hvs : (b.1 / a.1).toNat ≤ vs.length) (hc : Came m f rs a b vs i l) (hi : (i : Int) < b.1 / a.1) (hv : vs[i]? = some v) (hv1 : -9223372036854775808 < v) (hv2 : v < 9223372036854775808) :
    ∃ l', accM m f l (4 * b.1 + (i : Int) * a.1) v (4 * b.1 + b.1 - 1) = (l', 0) ∧ Came m f rs a b vs (i + 1) l' ∧
      (((i + 1 : Nat) : Int) = b.1 / a.1 → ∀ z, blendM m (vs.take (b.1 / a.1).toNat) = some z → ∃ r, l'[1]? = some r ∧ r.1 = b.1 ∧ getM r.1 r.2 (4 * b.1) = (false, z)) := by
  obtain ⟨w1, w2, w3, w4, c1, c2, c3, c4, k1, k2, k3, k4⟩ := h.facts
  have hlad := lad_of h.how h.tog hc.good hc.rung
  have hf := h.how
  simp only [howB, Bool.and_eq_true, decide_eq_true_eq] at hf
  obtain ⟨r0, r1, rest, rfl, e0, e1, e2, e3⟩ := two_of hc.rung h.fst h.snd
  have g0 := hc.good r0 (by simp)
  have g1 := hc.good r1 (by simp)
  have b1 : (i : Int) * a.1 ≤ b.1 - a.1 := by
    have := Int.mul_le_mul_of_nonneg_right (show (i : Int) ≤ b.1 / a.1 - 1 by omega) (show 0 ≤ a.1 by omega)
    rw [Int.sub_mul, Int.one_mul, Int.mul_comm (b.1 / a.1)] at this
    omega
  have b0 : 0 ≤ (i : Int) * a.1 := Int.mul_nonneg (by omega) (by omega)
  have q1 : 4 * b.1 + (i : Int) * a.1 = a.1 * (4 * (b.1 / a.1)) + (i : Int) * a.1 := by
    have : a.1 * (4 * (b.1 / a.1)) = 4 * b.1 := by rw [Int.mul_left_comm, ← k3]
    omega
  have hq : ∀ j : Nat, 4 * b.1 + (j : Int) * a.1 = a.1 * (4 * (b.1 / a.1) + (j : Int)) := by
    intro j
    have : a.1 * (4 * (b.1 / a.1)) = 4 * b.1 := by rw [Int.mul_left_comm, ← k3]
    rw [Int.mul_add, this, Int.mul_comm a.1 (j : Int)]
  have hm : ∀ j : Nat, (4 * b.1 + (j : Int) * a.1) % a.1 = 0 := by intro j; rw [hq j]; exact Int.mul_emod_right _ _
  have hdv : ∀ j : Nat, (4 * b.1 + (j : Int) * a.1) / a.1 = 4 * (b.1 / a.1) + (j : Int) := by intro j; rw [hq j]; exact Int.mul_ediv_cancel_left _ (by omega)
  have p1 : a.1 * (b.1 / a.1) ≤ a.1 * a.2 := Int.mul_le_mul_of_nonneg_left k1 (by omega)
  have ht : timedB (4 * b.1 + (i : Int) * a.1) = true := timedB_iff.2 ⟨by omega, by omega⟩
  have hn : timedB (4 * b.1 + b.1 - 1) = true := timedB_iff.2 ⟨by omega, by omega⟩
  have hle : ∀ j : Nat, j ≤ i → timedB (4 * b.1 + (j : Int) * a.1) = true := by
    intro j hj
    have h1 := Int.mul_le_mul_of_nonneg_right (show (j : Int) ≤ i by omega) (show 0 ≤ a.1 by omega)
    have h2 : 0 ≤ (j : Int) * a.1 := Int.mul_nonneg (by omega) (by omega)
    exact timedB_iff.2 ⟨by omega, by omega⟩
  have hr0 : rchsB r0 (4 * b.1 + (i : Int) * a.1) (4 * b.1 + b.1 - 1) = true := by
    unfold rchsB
    rw [e0, e1, hm i]
    exact decide_eq_true (by omega)
  have hmb : (4 * b.1 + (i : Int) * a.1) % b.1 = (i : Int) * a.1 := by
    rw [Int.add_comm, Int.add_mul_emod_self_right]
    exact Int.emod_eq_of_lt b0 (by omega)
  have hr1 : rchsB r1 (4 * b.1 + (i : Int) * a.1) (4 * b.1 + b.1 - 1) = true := by
    unfold rchsB
    rw [e2, e3, hmb]
    exact decide_eq_true (by omega)
  have hacc : accL m f (4 * b.1 + (i : Int) * a.1) v (4 * b.1 + b.1 - 1) (r0 :: r1 :: rest) = some (setR r0 (4 * b.1 + (i : Int) * a.1) v :: stepR m f (setR r0 (4 * b.1 + (i : Int) * a.1) v) r1 (4 * b.1 + (i : Int) * a.1) (4 * b.1 + b.1 - 1) :: upM m f (4 * b.1 + (i : Int) * a.1) (4 * b.1 + b.1 - 1) (stepR m f (setR r0 (4 * b.1 + (i : Int) * a.1) v) r1 (4 * b.1 + (i : Int) * a.1) (4 * b.1 + b.1 - 1)) rest) := by
    simp only [accL, hr0, if_true, upM]
  have hgood := acc_good ht hv1 hv2 hc.good hacc
  have hrung := acc_rung hacc
  have hset := setM_ok g0.1 ht (show v ≠ -9223372036854775808 by omega)
  have htold : ∀ j : Nat, j < i + 1 → ∀ u, vs[j]? = some u → valueM a.1 (setR r0 (4 * b.1 + (i : Int) * a.1) v).2 (4 * b.1 + (j : Int) * a.1) = (false, u) := by
    intro j hj u hu
    unfold setR
    rw [hset]
    simp only
    rw [e0, hm i, Int.sub_zero, value_set (by omega)]
    by_cases hji : j = i
    · subst hji
      rw [hv] at hu; injection hu with hu; subst hu
      simp
    · rw [if_neg ?_]
      · exact hc.told r0 rfl j (by omega) u hu
      · unfold placeM
        rw [hdv i, hdv j, e1]
        have hne := place_ne (q := 4 * (b.1 / a.1)) (c := a.2) (i := (i : Int)) (j := (j : Int)) (by omega) (by omega)
        have n1 := Int.emod_nonneg (4 * (b.1 / a.1) + (i : Int)) (show a.2 ≠ 0 by omega)
        have n2 := Int.emod_nonneg (4 * (b.1 / a.1) + (j : Int)) (show a.2 ≠ 0 by omega)
        omega
  refine ⟨_, ?_, ⟨hgood, hrung.trans hc.rung, ?_⟩, ?_⟩
  · unfold accM
    rw [if_pos (by simp [ht, hn, hlad]; omega), if_neg (by omega), hacc]
  · intro r hr
    simp at hr; subst hr
    exact htold
  · intro hlast z hz
    have hgs := hgood (setR r0 (4 * b.1 + (i : Int) * a.1) v) (by simp)
    have hparts : partsM (setR r0 (4 * b.1 + (i : Int) * a.1) v) (4 * b.1) (b.1 / a.1).toNat = vs.take (b.1 / a.1).toNat := by
      refine parts_all (r := setR r0 (4 * b.1 + (i : Int) * a.1) v) (w := a.1) e0 _ hvs ?_
      intro j hj u hu
      have hjt : timedB (4 * b.1 + (j : Int) * a.1) = true := hle j (by omega)
      have hrg : ringB (setR r0 (4 * b.1 + (i : Int) * a.1) v).1 (setR r0 (4 * b.1 + (i : Int) * a.1) v).2 = true := hgs.1
      have he0 : (setR r0 (4 * b.1 + (i : Int) * a.1) v).1 = a.1 := e0
      unfold getM
      rw [hrg, hjt]
      simp only [Bool.and_self, if_true]
      rw [he0, hm j, Int.sub_zero]
      exact htold j (by omega) u hu
    have hlen : (vs.take (b.1 / a.1).toNat).length = (b.1 / a.1).toNat := by rw [List.length_take]; omega
    have hco : coarM m f (setR r0 (4 * b.1 + (i : Int) * a.1) v) (4 * b.1 + (i : Int) * a.1 - (4 * b.1 + (i : Int) * a.1) % r1.1) r1.1 = some z := by
      have he0 : (setR r0 (4 * b.1 + (i : Int) * a.1) v).1 = a.1 := e0
      unfold coarM
      rw [he0, e2, hmb, show 4 * b.1 + (i : Int) * a.1 - (i : Int) * a.1 = 4 * b.1 by omega, hparts, hlen, if_neg ?_]
      · exact hz
      · have : f * (b.1 / a.1) ≤ 1000000 * (b.1 / a.1) := Int.mul_le_mul_of_nonneg_right hf.2.2.2 (by omega)
        omega
    have hzr := coar_rt (m := m) (f := f) (slot := 4 * b.1 + (i : Int) * a.1 - (4 * b.1 + (i : Int) * a.1) % r1.1) (step := r1.1) hgs.2 z hco
    have hst : stepR m f (setR r0 (4 * b.1 + (i : Int) * a.1) v) r1 (4 * b.1 + (i : Int) * a.1) (4 * b.1 + b.1 - 1) = setR r1 (4 * b.1 + (i : Int) * a.1) z := by
      unfold stepR
      rw [hr1, if_pos rfl, hco]
    refine ⟨_, rfl, ?_⟩
    rw [hst]
    refine ⟨e2, ?_⟩
    have h4 : timedB (4 * b.1) = true := timedB_iff.2 ⟨by omega, by omega⟩
    have hb0 : (4 * b.1) % b.1 = 0 := Int.mul_emod_left _ _
    have hgs1 := get_set (v := z) g1.1 h4 (by omega)
    have hs1 := setM_ok g1.1 ht (show z ≠ -9223372036854775808 by omega)
    unfold setR
    rw [hs1]
    simp only
    rw [e2, hmb, show 4 * b.1 + (i : Int) * a.1 - (i : Int) * a.1 = 4 * b.1 by omega]
    rw [e2, hb0, Int.sub_zero] at hgs1
    exact hgs1

end Go.Proofs.YtmjlldlaigoflaaGreat
