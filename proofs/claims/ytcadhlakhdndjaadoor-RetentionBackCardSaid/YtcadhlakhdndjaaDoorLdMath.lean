/- Archives that go together, ladders of rings, in plain words. No statement of the seat is proved here. -/
import Derived.Test.YtcadhlakhdndjaaDoorRgMath
set_option linter.unusedSimpArgs false
set_option linter.unusedVariables false
namespace Go.Proofs.YtcadhlakhdndjaaDoor
open Go Go.Sx

abbrev Rung := Int × Int

def szB (r : Rung) : Bool := sizedB r.1 r.2
/-- How many seconds an archive has. -/
def rchM (r : Rung) : Int := if szB r then r.1 * r.2 else 0
def flwB (a b : Rung) : Bool := decide (a.1 < b.1) && (decide (b.1 % a.1 = 0) && (decide (rchM a < rchM b) && decide (b.1 / a.1 ≤ a.2)))
def chainB : List Rung → Bool
  | a :: b :: l => flwB a b && chainB (b :: l)
  | _ => true
def togB (l : List Rung) : Bool := decide (1 ≤ l.length) && decide (l.length ≤ 4) && l.all szB && chainB l

theorem szB_iff {r : Rung} : szB r = true ↔ 1 ≤ r.1 ∧ r.1 ≤ 86400 ∧ 1 ≤ r.2 ∧ r.2 ≤ 400 := sizedB_iff

theorem mul_bd {a b : Int} (h1 : 1 ≤ a) (h2 : a ≤ 86400) (h3 : 1 ≤ b) (h4 : b ≤ 400) : 1 ≤ a * b ∧ a * b ≤ 34560000 := by
  have g1 := Int.mul_le_mul h2 h4 (by omega) (by omega)
  have g2 := Int.mul_le_mul h1 h3 (by omega) (by omega)
  omega

theorem rch_bd (r : Rung) : 0 ≤ rchM r ∧ rchM r ≤ 34560000 := by
  unfold rchM
  split
  · rename_i h
    have h := szB_iff.1 h
    have := mul_bd h.1 h.2.1 h.2.2.1 h.2.2.2
    omega
  · omega

theorem all_get {l : List Rung} {f : Rung → Bool} {i : Nat} {r : Rung} (h : l.all f = true) (hg : l[i]? = some r) : f r = true :=
  List.all_eq_true.1 h r (List.mem_of_getElem? hg)

theorem chain_get : ∀ {l : List Rung} {i : Nat} {a b : Rung}, chainB l = true → l[i]? = some a → l[i + 1]? = some b → flwB a b = true
  | [], i, a, b, _, h, _ => by simp at h
  | [x], i, a, b, _, _, h => by simp at h
  | x :: y :: l, 0, a, b, hc, h1, h2 => by
    simp only [chainB, Bool.and_eq_true] at hc
    simp at h1 h2; subst h1 h2; exact hc.1
  | x :: y :: l, i + 1, a, b, hc, h1, h2 => by
    simp only [chainB, Bool.and_eq_true] at hc
    exact chain_get (l := y :: l) (i := i) hc.2 (by simpa using h1) (by simpa using h2)

abbrev Ring := Int × List Slot
def rgT (r : Ring) : List T := [.v (.int .i64 r.1), .sl 2 (r.2.map slT)]
abbrev rgL (l : List Ring) : AV := .t (.sl 2 (l.map rgT))
abbrev ladV (m f : Int) (l : List Ring) : AV := .ag [I m, I f, rgL l]
def rungM (r : Ring) : Rung := (r.1, (r.2.length : Int))
def howB (m f : Int) : Bool := decide (1 ≤ m) && (decide (m ≤ 5) && (decide (0 ≤ f) && decide (f ≤ 1000000)))
def rgB (r : Ring) : Bool := ringB r.1 r.2
def ladB (m f : Int) (l : List Ring) : Bool := howB m f && l.all rgB && togB (l.map rungM)

theorem tog_len {l : List Rung} (h : togB l = true) : 1 ≤ l.length ∧ l.length ≤ 4 := by
  simp only [togB, Bool.and_eq_true, decide_eq_true_eq] at h
  exact h.1.1

theorem tog_all {l : List Rung} (h : togB l = true) : l.all szB = true := by
  simp only [togB, Bool.and_eq_true] at h
  exact h.1.2

theorem tog_chain {l : List Rung} (h : togB l = true) : chainB l = true := by
  simp only [togB, Bool.and_eq_true] at h
  exact h.2

theorem lad_parts {m f : Int} {l : List Ring} (h : ladB m f l = true) : howB m f = true ∧ l.all rgB = true ∧ togB (l.map rungM) = true ∧ 1 ≤ l.length ∧ l.length ≤ 4 := by
  simp only [ladB, Bool.and_eq_true] at h
  have := tog_len h.2
  rw [List.length_map] at this
  exact ⟨h.1.1, h.1.2, h.2, this⟩

end Go.Proofs.YtcadhlakhdndjaaDoor
