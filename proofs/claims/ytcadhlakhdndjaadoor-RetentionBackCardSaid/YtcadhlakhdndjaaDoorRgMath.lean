/- Rings of slots, in plain words. No statement of the seat is proved here. -/
import Derived.Test.YtcadhlakhdndjaaDoorStrMath
set_option linter.unusedSimpArgs false
set_option linter.unusedVariables false
namespace Go.Proofs.YtcadhlakhdndjaaDoor
open Go Go.Sx

/-- A slot: its time, its value. -/
abbrev Slot := Int × Int
def slT (s : Slot) : List T := [.v (.int .i64 s.1), .v (.int .i64 s.2)]
abbrev slL (l : List Slot) : AV := .t (.sl 2 (l.map slT))
abbrev ringV (w : Int) (l : List Slot) : AV := .ag [I w, slL l]
/-- A number, or nothing. -/
abbrev Num := Bool × Int
abbrev numV (n : Num) : AV := .ag [Bo n.1, I n.2]
def numT (n : Num) : List T := [.v (.bool n.1), .v (.int .i64 n.2)]
abbrev numL (l : List Num) : AV := .t (.sl 2 (l.map numT))

def timedB (t : Int) : Bool := decide (0 ≤ t) && decide (t ≤ 1099511627776)
def sizedB (w c : Int) : Bool := decide (1 ≤ w) && decide (w ≤ 86400) && decide (1 ≤ c) && decide (c ≤ 400)
def slotB (w n i : Int) (s : Slot) : Bool := (s.1 == -1 && s.2 == 0) || (timedB s.1 && (s.2 != -9223372036854775808) && (s.1 % w == 0) && (s.1 / w % n == i))
def slotsB (w n : Int) : Int → List Slot → Bool
  | _, [] => true
  | i, s :: l => slotB w n i s && slotsB w n (i + 1) l
def ringB (w : Int) (l : List Slot) : Bool := sizedB w l.length && slotsB w l.length 0 l

theorem timedB_iff {t : Int} : timedB t = true ↔ 0 ≤ t ∧ t ≤ 1099511627776 := by simp [timedB]
theorem sizedB_iff {w c : Int} : sizedB w c = true ↔ 1 ≤ w ∧ w ≤ 86400 ∧ 1 ≤ c ∧ c ≤ 400 := by simp [sizedB, and_assoc]

theorem slotsB_get {w n : Int} : ∀ {l : List Slot} {i : Int} {k : Nat} {s : Slot}, slotsB w n i l = true → l[k]? = some s → slotB w n (i + k) s = true
  | [], _, _, _, _, h => by simp at h
  | s :: l, i, 0, u, h, hk => by simp only [slotsB, Bool.and_eq_true] at h; simp at hk; subst hk; simpa using h.1
  | s :: l, i, k + 1, u, h, hk => by
    simp only [slotsB, Bool.and_eq_true] at h
    have := slotsB_get h.2 (k := k) (s := u) (by simpa using hk)
    rwa [show i + 1 + (k : Int) = i + ((k + 1 : Nat) : Int) by omega] at this

def alignM (w : Int) (l : List Slot) (t : Int) : Int × Int := if ringB w l && timedB t then (t - t % w, 0) else (0, 1)
def placeM (w : Int) (l : List Slot) (t : Int) : Nat := (t / w % (l.length : Int)).toNat
def setM (w : Int) (l : List Slot) (t v : Int) : List Slot × Int := if ringB w l && timedB t && (v != -9223372036854775808) then (l.set (placeM w l (t - t % w)) (t - t % w, v), 0) else (l, 1)
def valueM (w : Int) (l : List Slot) (t : Int) : Num := match l[placeM w l t]? with
  | some s => if s.1 = t then (false, s.2) else (true, 0)
  | none => (true, 0)
def getM (w : Int) (l : List Slot) (t : Int) : Num := if ringB w l && timedB t then valueM w l (t - t % w) else (true, 0)

theorem ringB_sized {w : Int} {l : List Slot} (h : ringB w l = true) : 1 ≤ w ∧ w ≤ 86400 ∧ 1 ≤ l.length ∧ l.length ≤ 400 := by
  simp only [ringB, Bool.and_eq_true] at h
  have := sizedB_iff.1 h.1
  omega

theorem placeM_lt {w : Int} {l : List Slot} (h : 0 < l.length) (t : Int) : placeM w l t < l.length := by
  unfold placeM
  have h1 := Int.emod_lt_of_pos (t / w) (show (0 : Int) < l.length by omega)
  have h2 := Int.emod_nonneg (t / w) (show (l.length : Int) ≠ 0 by omega)
  omega

theorem take_map_len {α β : Type} (l : List α) (f : α → β) : (l.map f).take l.length = l.map f := by rw [List.take_of_length_le]; simp

theorem map_len_succ {α β : Type} {l : List α} {f : α → β} {e : β} {es : List β} (h : l.map f = e :: es) : es.length + 1 = l.length := by
  have := congrArg List.length h; simpa using this.symm

theorem slT_inj {a b : Slot} (h : slT a = slT b) : a = b := by
  simp [slT] at h; exact Prod.ext h.1 h.2

def newM (w c : Int) : (Int × List Slot) × Int := if sizedB w c then ((w, List.replicate c.toNat (-1, 0)), 0) else ((0, []), 1)

theorem splice_rep {α : Type} (e z : α) (c n : Nat) (h : n ≤ c) :
    splice (List.replicate n e ++ List.replicate (c - n) z) n (((List.replicate n e ++ List.replicate (c - n) z).take n).take (c - n)) = List.replicate (n + min n (c - n)) e ++ List.replicate (c - (n + min n (c - n))) z := by
  have h1 : (List.replicate n e ++ List.replicate (c - n) z).take n = List.replicate n e := by
    rw [List.take_append_of_le_length (by simp), List.take_of_length_le (by simp)]
  rw [h1, List.take_replicate]
  unfold splice
  rw [h1, List.length_replicate, List.drop_append, List.drop_replicate, List.drop_replicate, List.length_replicate, List.replicate_append_replicate]
  rw [show n - (n + min (c - n) n) = 0 by omega, show c - n - (n + min (c - n) n - n) = c - (n + min n (c - n)) by omega, Nat.min_comm]
  simp

/-- The first slot's number at or behind a time. -/
def ceilM (w t : Int) : Int := (t + w - 1) / w
def cntM (w a b : Int) : Nat := (ceilM w b - ceilM w a).toNat
/-- The values of so many slots. -/
def spanL (w : Int) (l : List Slot) (a : Int) (n : Nat) : List Num := (List.range n).map fun (i : Nat) => valueM w l ((ceilM w a + (i : Int)) * w)
def spanM (w : Int) (l : List Slot) (a b : Int) : List Num × Int :=
  if ringB w l && timedB a && timedB b then (if 2000 < cntM w a b then ([], 11) else (spanL w l a (cntM w a b), 0)) else ([], 1)

theorem ceil_lt {w b k : Int} (hw : 0 < w) : k * w < b ↔ k < ceilM w b := by
  unfold ceilM
  have h : k * w < b ↔ k * w + w ≤ b + w - 1 := by omega
  rw [h, show k * w + w = (k + 1) * w by rw [Int.add_mul, Int.one_mul], ← Int.le_ediv_iff_mul_le hw]
  omega

theorem ceil_bd {w a : Int} (hw : 1 ≤ w) (ha : 0 ≤ a) : 0 ≤ ceilM w a ∧ ceilM w a * w ≤ a + w - 1 ∧ a ≤ ceilM w a * w ∧ ceilM w a ≤ a := by
  unfold ceilM
  have h1 := Int.mul_ediv_add_emod (a + w - 1) w
  have h2 := Int.emod_nonneg (a + w - 1) (show w ≠ 0 by omega)
  have h3 := Int.emod_lt_of_pos (a + w - 1) (show 0 < w by omega)
  have h4 : 0 ≤ (a + w - 1) / w := Int.ediv_nonneg (by omega) (by omega)
  rw [Int.mul_comm] at h1
  refine ⟨h4, by omega, by omega, ?_⟩
  rcases Int.lt_or_le a ((a + w - 1) / w) with h | h
  · exfalso
    have h5 : (a + 1) * w ≤ (a + w - 1) / w * w := Int.mul_le_mul_of_nonneg_right (by omega) (by omega)
    have h6 : a * 1 ≤ a * w := Int.mul_le_mul_of_nonneg_left hw ha
    rw [Int.add_mul] at h5
    omega
  · exact h

theorem spanL_zero (w : Int) (l : List Slot) (a : Int) : spanL w l a 0 = [] := rfl
theorem spanL_succ (w : Int) (l : List Slot) (a : Int) (n : Nat) : spanL w l a (n + 1) = spanL w l a n ++ [valueM w l ((ceilM w a + (n : Int)) * w)] := by
  unfold spanL; rw [List.range_succ, List.map_append]; rfl
theorem spanL_len (w : Int) (l : List Slot) (a : Int) (n : Nat) : (spanL w l a n).length = n := by simp [spanL]

theorem cnt_eq {w a b : Int} (hw : 0 < w) : (b - 1 - ceilM w a * w) / w + 1 = ceilM w b - ceilM w a := by
  unfold ceilM
  have h1 : (b - 1 - (a + w - 1) / w * w) / w = (b - 1) / w - (a + w - 1) / w := by
    rw [Int.sub_eq_add_neg, ← Int.neg_mul, Int.add_mul_ediv_right _ _ (by omega)]; omega
  have h2 : (b + w - 1) / w = (b - 1) / w + 1 := by
    rw [show b + w - 1 = (b - 1) + 1 * w by omega, Int.add_mul_ediv_right _ _ (by omega)]
  rw [h1, h2]; omega

theorem set_last {α : Type} (l : List α) (z x : α) (k n : Nat) (h : l.length = n) : (l ++ List.replicate (k + 1) z).set n x = (l ++ [x]) ++ List.replicate k z := by
  subst h
  rw [List.set_append_right _ _ (Nat.le_refl _), Nat.sub_self, List.replicate_succ]; simp

theorem get_last {α : Type} (l : List α) (z : α) (k n : Nat) (h : l.length = n) : (l ++ List.replicate (k + 1) z)[n]? = some z := by
  subst h
  rw [List.getElem?_append_right (Nat.le_refl _), Nat.sub_self, List.replicate_succ]; rfl

theorem slotsB_set {w n : Int} : ∀ {l : List Slot} {i : Int} {k : Nat} {s : Slot}, slotsB w n i l = true → slotB w n (i + k) s = true → slotsB w n i (l.set k s) = true
  | [], _, _, _, _, _ => by simp [slotsB]
  | u :: l, i, 0, s, h, hs => by
    simp only [slotsB, Bool.and_eq_true] at h
    simp only [List.set_cons_zero, slotsB, Bool.and_eq_true]
    exact ⟨by simpa using hs, h.2⟩
  | u :: l, i, k + 1, s, h, hs => by
    simp only [slotsB, Bool.and_eq_true] at h
    simp only [List.set_cons_succ, slotsB, Bool.and_eq_true]
    refine ⟨h.1, slotsB_set h.2 ?_⟩
    rwa [show i + ((k + 1 : Nat) : Int) = i + 1 + (k : Int) by omega] at hs

theorem slot_bd {w t : Int} (hw : 1 ≤ w) (ht : 0 ≤ t) : 0 ≤ t - t % w ∧ t - t % w ≤ t ∧ (t - t % w) % w = 0 := by
  have m1 := Int.emod_nonneg t (show w ≠ 0 by omega)
  have m3 : t - t % w = w * (t / w) := by have := Int.mul_ediv_add_emod t w; omega
  have m4 : 0 ≤ t - t % w := by rw [m3]; exact Int.mul_nonneg (by omega) (Int.ediv_nonneg ht (by omega))
  refine ⟨m4, by omega, ?_⟩
  rw [m3]; exact Int.mul_emod_right _ _

theorem setM_ok {w t v : Int} {l : List Slot} (h : ringB w l = true) (ht : timedB t = true) (hv : v ≠ -9223372036854775808) : setM w l t v = (l.set (placeM w l (t - t % w)) (t - t % w, v), 0) := by
  simp [setM, h, ht, hv]

theorem setM_bad {w t v : Int} {l : List Slot} (h : ¬ (ringB w l = true ∧ timedB t = true ∧ v ≠ -9223372036854775808)) : setM w l t v = (l, 1) := by
  have : (ringB w l && timedB t && (v != -9223372036854775808)) = false := by
    rw [Bool.eq_false_iff]; intro h'
    simp only [Bool.and_eq_true, bne_iff_ne] at h'
    exact h ⟨h'.1.1, h'.1.2, h'.2⟩
  simp only [setM, this]; rfl

/-- A ring stays one when a slot is set. -/
theorem set_right {w t v : Int} {l : List Slot} (h : ringB w l = true) (ht : timedB t = true) (hv : v ≠ -9223372036854775808) : ringB w (l.set (placeM w l (t - t % w)) (t - t % w, v)) = true := by
  have hs := ringB_sized h
  have h' := timedB_iff.1 ht
  have hb := slot_bd hs.1 h'.1
  have h2 := h
  simp only [ringB, Bool.and_eq_true] at h2 ⊢
  rw [List.length_set]
  refine ⟨h2.1, slotsB_set h2.2 ?_⟩
  have hp : (t - t % w) / w % (l.length : Int) = ((placeM w l (t - t % w) : Nat) : Int) := by
    unfold placeM
    have := Int.emod_nonneg ((t - t % w) / w) (show (l.length : Int) ≠ 0 by omega)
    omega
  have ht2 : timedB (t - t % w) = true := timedB_iff.2 (by omega)
  simp [slotB, ht2, hv, hb.2.2, hp]

theorem get_set {w t v : Int} {l : List Slot} (h : ringB w l = true) (ht : timedB t = true) (hv : v ≠ -9223372036854775808) : getM w (l.set (placeM w l (t - t % w)) (t - t % w, v)) t = (false, v) := by
  have hs := ringB_sized h
  have hlt := placeM_lt (w := w) (l := l) (by omega) (t - t % w)
  have hp : placeM w (l.set (placeM w l (t - t % w)) (t - t % w, v)) (t - t % w) = placeM w l (t - t % w) := by unfold placeM; simp
  simp [getM, set_right h ht hv, ht, valueM, hp, hlt]

theorem spanL_add (w : Int) (l : List Slot) (a b : Int) (m : Nat) (h : ceilM w b = ceilM w a + m) : ∀ n, spanL w l a (m + n) = spanL w l a m ++ spanL w l b n
  | 0 => by simp [spanL_zero]
  | n + 1 => by
    rw [← Nat.add_assoc, spanL_succ, spanL_succ, spanL_add w l a b m h n, h, List.append_assoc]
    rw [show ceilM w a + ((m + n : Nat) : Int) = ceilM w a + (m : Int) + (n : Int) by omega]

theorem ceil_mono {w a b : Int} (hw : 1 ≤ w) (h : a ≤ b) : ceilM w a ≤ ceilM w b := by
  unfold ceilM; exact Int.ediv_le_ediv (by omega) (by omega)

end Go.Proofs.YtcadhlakhdndjaaDoor
