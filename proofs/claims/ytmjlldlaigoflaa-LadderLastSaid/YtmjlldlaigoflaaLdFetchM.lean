/- What is fetched of a ladder, in plain words. No statement of the seat is proved here. -/
import Derived.Test.YtmjlldlaigoflaaLdCap
set_option linter.unusedSimpArgs false
set_option linter.unusedVariables false
namespace Go.Proofs.Ytmjlldlaigoflaa
open Go Go.Sx

/-- Which ring is asked. -/
def pickL (rs : List Ring) (fr now : Int) : Int :=
  if idxF (fun r => decide (now - fr ≤ r.1 * (r.2.length : Int))) rs 0 < 0 then (rs.length : Int) - 1 else idxF (fun r => decide (now - fr ≤ r.1 * (r.2.length : Int))) rs 0
def pickA (m f : Int) (rs : List Ring) (fr now : Int) : Int := if timedB fr && timedB now && ladB m f rs then pickL rs fr now else 0
/-- The number of the first slot above a time, and not below 0. -/
def abvM (t w : Int) : Int := if t < 0 then 0 else t / w + 1
def fstM (r : Ring) (fr now : Int) : Int := max (ceilM r.1 fr) (abvM (now - r.1 * (r.2.length : Int)) r.1)
def numM (r : Ring) (fr un now : Int) : Nat := (ceilM r.1 (min un (now + 1)) - fstM r fr now).toNat
/-- So many values from a slot on. -/
def valL (r : Ring) (a : Int) : Nat → List Num
  | 0 => []
  | n + 1 => valL r a n ++ [getM r.1 r.2 ((a + (n : Int)) * r.1)]
def fetR (r : Ring) (fr un now : Int) : Int × Int × List Num :=
  (if numM r fr un now = 0 then ceilM r.1 fr * r.1 else fstM r fr now * r.1, r.1, valL r (fstM r fr now) (numM r fr un now))
def fetM (m f : Int) (rs : List Ring) (fr un now : Int) : (Int × Int × List Num) × Int :=
  if timedB fr && timedB un && timedB now && decide (fr < un) && ladB m f rs then (match rs[(pickL rs fr now).toNat]? with | some r => fetR r fr un now | none => (0, 0, []), 0) else ((0, 0, []), 1)
abbrev serV (s : ByteArray) (st sp : Int) (l : List Num) : AV := .ag [.t (.v (.string s)), I st, I sp, numL l]

theorem valL_len (r : Ring) (a : Int) : ∀ n, (valL r a n).length = n
  | 0 => rfl
  | n + 1 => by simp [valL, valL_len r a n]

theorem pick_in {rs : List Ring} (h : 0 < rs.length) (fr now : Int) : ∃ k : Nat, pickL rs fr now = (k : Int) ∧ k < rs.length := by
  unfold pickL
  rcases idx_cases (fun r => decide (now - fr ≤ r.1 * (r.2.length : Int))) rs 0 with h1 | ⟨k, h1, h2⟩
  · rw [h1, if_pos (by decide)]
    exact ⟨rs.length - 1, by omega, by omega⟩
  · rw [h1, if_neg (by omega)]
    exact ⟨k, rfl, by omega⟩
where
  idx_cases (p : Ring → Bool) : ∀ (l : List Ring) (i : Nat), idxF p l i = -1 ∨ ∃ k : Nat, idxF p l i = (k : Int) ∧ k < i + l.length
  | [], i => Or.inl rfl
  | r :: l, i => by
    simp only [idxF]
    split
    · exact Or.inr ⟨i, rfl, by simp⟩
    · rcases idx_cases p l (i + 1) with h | ⟨k, h1, h2⟩
      · exact Or.inl h
      · exact Or.inr ⟨k, h1, by simp; omega⟩

theorem num_bd {r : Ring} {fr un now : Int} (h : ringB r.1 r.2 = true) (h1 : 0 ≤ fr) (h2 : 0 ≤ now) : (numM r fr un now : Int) ≤ (r.2.length : Int) ∧ 0 ≤ fstM r fr now := by
  obtain ⟨w1, w2, w3, w4, _⟩ := ring_bd h
  have c1 := (ceil_bd w1 h1).1
  have hf : 0 ≤ fstM r fr now := by unfold fstM; omega
  refine ⟨?_, hf⟩
  apply Decidable.byContradiction
  intro hc
  have hn : (r.2.length : Int) < ceilM r.1 (min un (now + 1)) - fstM r fr now := by unfold numM at hc; omega
  have hk : (fstM r fr now + (r.2.length : Int)) * r.1 < min un (now + 1) := (ceil_lt (by omega)).2 (by omega)
  have ha : now - r.1 * (r.2.length : Int) < fstM r fr now * r.1 := by
    have h3 : abvM (now - r.1 * (r.2.length : Int)) r.1 ≤ fstM r fr now := by unfold fstM; omega
    unfold abvM at h3
    split at h3
    · have := Int.mul_nonneg hf (show 0 ≤ r.1 by omega); omega
    · rename_i h0
      have h4 : (now - r.1 * (r.2.length : Int)) / r.1 < fstM r fr now := by omega
      exact (Int.ediv_lt_iff_lt_mul (by omega)).1 h4
  rw [Int.add_mul, Int.mul_comm (r.2.length : Int)] at hk
  omega

end Go.Proofs.Ytmjlldlaigoflaa
