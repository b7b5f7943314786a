/- What a configuration's text says: the plain law. No statement of the seat is proved here. -/
import Derived.Test.YtbkchhjdjijhkaaDoorCfText
set_option linter.unusedSimpArgs false
set_option linter.unusedVariables false
namespace Go.Proofs.YtbkchhjdjijhkaaDoor
open Go Go.Sx

/-- Without blanks and tabs around it. -/
def cfTrim (l : List UInt8) : List UInt8 := Lib.trimS l [32, 9]

def cfLine (l : List UInt8) : List UInt8 := cfTrim (stripB 13 l)

/-- Is a line not idle? -/
def cfKeep (l : List UInt8) : Bool := match l with
  | [] => false
  | b :: _ => !(b == 35) && !(b == 59)

def cfLines (l : List UInt8) : List (List UInt8) := ((partsB 10 l).map cfLine).filter cfKeep

def cfNamed (l : List UInt8) : Bool := decide (1 ≤ l.length) && decide (l.length ≤ 32) && !l.contains 93

def letterB (b : UInt8) : Bool := (decide (97 ≤ b.toNat) && decide (b.toNat ≤ 122)) || (decide (65 ≤ b.toNat) && decide (b.toNat ≤ 90))

def cfKeyed (l : List UInt8) : Bool := decide (1 ≤ l.length) && decide (l.length ≤ 32) && l.all letterB

/-- The name of a line that begins a section, and whether it does. -/
def cfSecN (l : List UInt8) : List UInt8 := stripB 93 (frontB 91 l)
def cfSecB (l : List UInt8) : Bool := headB 91 l && (lastB 93 (frontB 91 l) && cfNamed (cfSecN l))

abbrev CfPair := List UInt8 × List UInt8
abbrev CfSec := List UInt8 × List CfPair

/-- A line's key and value, and whether it says them. -/
def cfPair (l : List UInt8) : CfPair × Bool :=
  if 0 ≤ Lib.indexByte l 61 then ((cfTrim (l.take (Lib.indexByte l 61).toNat), cfTrim (l.drop ((Lib.indexByte l 61).toNat + 1))), cfKeyed (cfTrim (l.take (Lib.indexByte l 61).toNat))) else ((cfTrim l, []), false)

def cfGet : List CfPair → List UInt8 → Option (List UInt8)
  | [], _ => none
  | p :: ps, k => if p.1 = k then some p.2 else cfGet ps k

def cfHas : List CfSec → List UInt8 → Bool
  | [], _ => false
  | s :: ss, n => (s.1 == n) || cfHas ss n

/-- Sections that stand, and the last one. -/
abbrev CfSt := Option (List CfSec × List UInt8 × List CfPair)

def cfAll : CfSt → List CfSec
  | none => []
  | some (d, n, ks) => d ++ [(n, ks)]

/-- One line more; how it fails. -/
def cfStep (st : CfSt) (l : List UInt8) : Except Int CfSt :=
  if cfSecB l then
    (if cfHas (cfAll st) (cfSecN l) then .error 5 else if (cfAll st).length = 16 then .error 11 else .ok (some (cfAll st, cfSecN l, [])))
  else match st with
    | none => .error 7
    | some (d, n, ks) => if (cfPair l).2 = false then .error 7 else if (cfGet ks (cfPair l).1.1).isSome then .error 5 else if ks.length = 16 then .error 11 else .ok (some (d, n, ks ++ [(cfPair l).1]))

def cfGo : List (List UInt8) → CfSt → Except Int CfSt
  | [], st => .ok st
  | l :: ls, st => match cfStep st l with
    | .error e => .error e
    | .ok st => cfGo ls st

/-- A configuration; how it fails. -/
def cfParse (t : List UInt8) : List CfSec × Int := if 4096 < t.length then ([], 12) else match cfGo (cfLines t) none with
  | .error e => ([], e)
  | .ok st => (cfAll st, 0)

def pairT (p : CfPair) : List T := [.v (.string (toB p.1)), .v (.string (toB p.2))]
def secT (s : CfSec) : List T := [.v (.string (toB s.1)), .sl 2 (s.2.map pairT)]
def secsV (l : List CfSec) : AV := .t (.sl 2 (l.map secT))
def linesV (l : List (List UInt8)) : AV := .t (.sl 1 (l.map fun x => rowS (toB x)))

theorem cfHas_app (a b : List CfSec) (n : List UInt8) : cfHas (a ++ b) n = (cfHas a n || cfHas b n) := by
  induction a with
  | nil => rfl
  | cons s a ih => simp only [List.cons_append, cfHas, ih, Bool.or_assoc]

theorem letter_eq (b : UInt8) : (decide (97 ≤ (b.toNat ||| 32)) && decide ((b.toNat ||| 32) ≤ 122)) = letterB b := by
  have h := (by decide +kernel : ∀ n : Fin 256, (decide (97 ≤ ((UInt8.ofNat n.1).toNat ||| 32)) && decide (((UInt8.ofNat n.1).toNat ||| 32) ≤ 122)) = letterB (UInt8.ofNat n.1))
  have := h ⟨b.toNat, u8_lt b⟩
  simpa using this

theorem trimS_len (l cs : List UInt8) : (Lib.trimS l cs).length ≤ l.length := by
  unfold Lib.trimS Lib.trimLeftS Lib.trimRightS
  refine Nat.le_trans (List.dropWhile_suffix _).length_le ?_
  rw [List.length_reverse]
  refine Nat.le_trans (List.dropWhile_suffix _).length_le ?_
  rw [List.length_reverse]; exact Nat.le_refl _

theorem strip_len (c : UInt8) (l : List UInt8) : (stripB c l).length ≤ l.length := by
  unfold stripB; split
  · simp
  · exact Nat.le_refl _

theorem front_len (c : UInt8) (l : List UInt8) : (frontB c l).length ≤ l.length := by
  unfold frontB; split
  · simp
  · exact Nat.le_refl _

theorem line_len (l : List UInt8) : (cfLine l).length ≤ l.length := Nat.le_trans (trimS_len _ _) (strip_len 13 l)

theorem lines_len (t : List UInt8) : (cfLines t).length ≤ t.length + 1 ∧ ∀ l ∈ cfLines t, l.length ≤ t.length := by
  have h := parts_sum 10 t
  unfold cfLines
  refine ⟨?_, fun l hl => ?_⟩
  · refine Nat.le_trans (List.length_filter_le _ _) ?_
    rw [List.length_map]; exact h.1
  · obtain ⟨h1, _⟩ := List.mem_filter.1 hl
    obtain ⟨p, hp, rfl⟩ := List.mem_map.1 h1
    exact Nat.le_trans (line_len p) (h.2 p hp)

end Go.Proofs.YtbkchhjdjijhkaaDoor
