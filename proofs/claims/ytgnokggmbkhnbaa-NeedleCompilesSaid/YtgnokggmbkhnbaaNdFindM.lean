/- Finding patterns, in plain words. No statement of the seat is proved here. -/
import Derived.Test.YtgnokggmbkhnbaaNdMath
set_option linter.unusedSimpArgs false
set_option linter.unusedVariables false
namespace Go.Proofs.Ytgnokggmbkhnbaa
open Go Go.Sx

abbrev bT (b : Bool) : List T := [.v (.bool b)]
abbrev boolsV (l : List Bool) : AV := .t (.sl 1 (l.map bT))

def starAt (is : List Item) (i : Nat) : Bool := (is[i]?.map (·.2)).getD false
def fitAt (is : List Item) (i b : Nat) : Bool := (is[i]?.map fun x => x.1.testBit b).getD false

/-- An item may come next, and those behind it. -/
def reachM (is : List Item) : Nat → Nat → List Bool → List Bool
  | 0, _, s => s
  | f + 1, i, s => if s.getD i false then s else if starAt is i then reachM is f (i + 1) (s.set i true) else s.set i true

/-- The states behind a byte: so many items are looked at. -/
def stepN (is : List Item) (s : List Bool) (b : Nat) : Nat → List Bool
  | 0 => List.replicate (is.length + 1) false
  | k + 1 => if s.getD k false && fitAt is k b then reachM is (is.length + 1) (if starAt is k then k else k + 1) (stepN is s b k) else stepN is s b k
def stepM (is : List Item) (s : List Bool) (b : Nat) : List Bool := stepN is s b is.length

def walkM (start stop : Bool) (is : List Item) : List UInt8 → List Bool → Bool
  | [], s => s.getD is.length false
  | c :: r, s => if s.getD is.length false && !stop then true else walkM start stop is r (if start then stepM is s c.toNat else reachM is (is.length + 1) 0 (stepM is s c.toNat))
def foundM (start stop : Bool) (is : List Item) (tx : List UInt8) : Bool := walkM start stop is tx (reachM is (is.length + 1) 0 (List.replicate (is.length + 1) false))

theorem reachM_len (is : List Item) : ∀ (f i : Nat) (s : List Bool), (reachM is f i s).length = s.length
  | 0, _, _ => rfl
  | f + 1, i, s => by
    simp only [reachM]
    split
    · rfl
    · split
      · rw [reachM_len is f]; simp
      · simp

theorem stepN_len (is : List Item) (s : List Bool) (b : Nat) : ∀ k, (stepN is s b k).length = is.length + 1
  | 0 => by simp [stepN]
  | k + 1 => by
    simp only [stepN]
    split
    · rw [reachM_len, stepN_len is s b k]
    · exact stepN_len is s b k

theorem stepM_len (is : List Item) (s : List Bool) (b : Nat) : (stepM is s b).length = is.length + 1 := stepN_len is s b _

/-! ### Where the items so far can end -/

def nextE (star : Bool) (fit : Nat → Bool) (E : Nat → Bool) : Nat → Bool
  | 0 => star && E 0
  | k + 1 => if star then E (k + 1) || (nextE star fit E k && fit k) else E k && fit k

def fitTx (tx : List UInt8) (n : Nat) (k : Nat) : Bool := (tx[k]?.map fun c => n.testBit c.toNat).getD false

def endsE (start : Bool) (tx : List UInt8) : List Item → (Nat → Bool) → (Nat → Bool)
  | [], E => E
  | x :: is, E => endsE start tx is (nextE x.2 (fitTx tx x.1) E)

def firstE (start : Bool) : Nat → Bool := fun k => !start || k == 0
def refM (start stop : Bool) (is : List Item) (tx : List UInt8) : Bool :=
  if stop then endsE start tx is (firstE start) tx.length else (List.range (tx.length + 1)).any (endsE start tx is (firstE start))

end Go.Proofs.Ytgnokggmbkhnbaa
