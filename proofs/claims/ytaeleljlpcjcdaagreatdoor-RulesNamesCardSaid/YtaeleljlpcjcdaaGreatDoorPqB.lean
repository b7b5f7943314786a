/- Texts of mine, many in one. No statement of the seat is proved here. -/
import Derived.Test.YtaeleljlpcjcdaaGreatDoorPqA
import Derived.Test.YtaeleljlpcjcdaaGreatDoorShelf
import Derived.Test.YtaeleljlpcjcdaaGreatDoorSxH
import Derived.Shelf.Strings.SlTrimAscii
import Derived.Shelf.Strconv.ParseIntPublic10
import Derived.WalkKit
import Derived.TacticsInMore
set_option linter.unusedSimpArgs false
set_option linter.unusedVariables false
namespace Go.Proofs.YtaeleljlpcjcdaaGreatDoor
open Go Go.Sx

/-- Are all items from one place to another of any number? -/
def chain (is : List Item) (i k : Nat) : Prop := i ≤ k ∧ ∀ m, i ≤ m → m < k → starAt is m = true

def gt (s : List Bool) (k : Nat) : Prop := s.getD k false = true

theorem getD_set (s : List Bool) (i k : Nat) (v : Bool) (h : i < s.length) : (s.set i v).getD k false = if k = i then v else s.getD k false := by
  simp only [List.getD_eq_getElem?_getD, List.getElem?_set]
  by_cases hk : k = i
  · subst hk; simp [h]
  · rw [if_neg (Ne.symm hk), if_neg hk]

/-- All that may come next is there, but behind one place. -/
def closedX (is : List Item) (s : List Bool) (i : Nat) : Prop := ∀ k, k < is.length → k + 1 ≠ i → gt s k → starAt is k = true → gt s (k + 1)
def closed (is : List Item) (s : List Bool) : Prop := ∀ k, k < is.length → gt s k → starAt is k = true → gt s (k + 1)

theorem star_lt {is : List Item} {i : Nat} (h : starAt is i = true) : i < is.length := by
  unfold starAt at h
  by_cases hi : i < is.length
  · exact hi
  · rw [List.getElem?_eq_none (by omega)] at h; simp at h

theorem chain_gt {is : List Item} {s : List Bool} (hcl : closed is s) {i : Nat} (h0 : gt s i) : ∀ {k : Nat}, i ≤ k → (∀ m, i ≤ m → m < k → starAt is m = true) → k ≤ is.length → gt s k
  | 0, h1, _, _ => by
    have : i = 0 := by omega
    subst this; exact h0
  | k + 1, h1, h2, h3 => by
    by_cases e : i = k + 1
    · subst e; exact h0
    · exact hcl k (by omega) (chain_gt hcl h0 (by omega) (fun m a b => h2 m a (by omega)) (by omega)) (h2 k (by omega) (by omega))

theorem reach_spec (is : List Item) : ∀ (f i : Nat) (s : List Bool), s.length = is.length + 1 → i ≤ is.length → is.length < i + f → closedX is s i →
    closed is (reachM is f i s) ∧ ∀ k, gt (reachM is f i s) k ↔ gt s k ∨ (chain is i k ∧ k ≤ is.length)
  | 0, i, s, _, hi, hf, _ => by omega
  | f + 1, i, s, hs, hi, hf, hc => by
    simp only [reachM]
    by_cases hsi : s.getD i false = true
    · rw [if_pos hsi]
      have hcl : closed is s := by
        intro k hk h1 h2
        by_cases e : k + 1 = i
        · rw [e]; exact hsi
        · exact hc k hk e h1 h2
      refine ⟨hcl, fun k => ⟨Or.inl, fun h => ?_⟩⟩
      rcases h with h | ⟨⟨h1, h2⟩, h3⟩
      · exact h
      · exact chain_gt hcl hsi h1 h2 h3
    · rw [if_neg hsi]
      have hsl : i < s.length := by omega
      have hset : ∀ k, gt (s.set i true) k ↔ k = i ∨ gt s k := by
        intro k
        unfold gt
        rw [getD_set s i k true hsl]
        by_cases e : k = i
        · simp [e]
        · simp [e]
      by_cases hst : starAt is i = true
      · rw [if_pos hst]
        have hlt := star_lt hst
        have hc2 : closedX is (s.set i true) (i + 1) := by
          intro k hk h0 h1 h2
          rw [hset] at h1 ⊢
          rcases h1 with h1 | h1
          · exact absurd (by rw [h1]) h0
          · by_cases e : k + 1 = i
            · exact Or.inl e
            · exact Or.inr (hc k hk e h1 h2)
        obtain ⟨g1, g2⟩ := reach_spec is f (i + 1) (s.set i true) (by simpa using hs) (by omega) (by omega) hc2
        refine ⟨g1, fun k => ?_⟩
        rw [g2 k, hset]
        constructor
        · rintro ((h | h) | ⟨⟨h1, h2⟩, h3⟩)
          · subst h; exact Or.inr ⟨⟨Nat.le_refl _, fun m a b => by omega⟩, by omega⟩
          · exact Or.inl h
          · refine Or.inr ⟨⟨by omega, fun m a b => ?_⟩, h3⟩
            by_cases e : m = i
            · rw [e]; exact hst
            · exact h2 m (by omega) b
        · rintro (h | ⟨⟨h1, h2⟩, h3⟩)
          · exact Or.inl (Or.inr h)
          · by_cases e : k = i
            · exact Or.inl (Or.inl e)
            · exact Or.inr ⟨⟨by omega, fun m a b => h2 m (by omega) b⟩, h3⟩
      · rw [if_neg hst]
        refine ⟨?_, fun k => ?_⟩
        · intro k hk h1 h2
          rw [hset] at h1 ⊢
          rcases h1 with h1 | h1
          · rw [h1] at h2; exact absurd h2 hst
          · by_cases e : k + 1 = i
            · exact Or.inl e
            · exact Or.inr (hc k hk e h1 h2)
        · rw [hset]
          constructor
          · rintro (h | h)
            · subst h; exact Or.inr ⟨⟨Nat.le_refl _, fun m a b => by omega⟩, hi⟩
            · exact Or.inl h
          · rintro (h | ⟨⟨h1, h2⟩, h3⟩)
            · exact Or.inr h
            · by_cases e : k = i
              · exact Or.inl e
              · exact absurd (h2 i (Nat.le_refl _) (by omega)) hst

theorem closed_rep (is : List Item) (n : Nat) : closed is (List.replicate n false) := by
  intro k _ h _
  unfold gt at h
  simp [List.getD_eq_getElem?_getD, List.getElem?_replicate] at h
  split at h <;> simp at h

/-- What one state and a byte lead to. -/
def seed (is : List Item) (s : List Bool) (b i p : Nat) : Prop := gt s i ∧ fitAt is i b = true ∧ p = if starAt is i then i else i + 1

theorem step_spec (is : List Item) (s : List Bool) (b : Nat) : ∀ n, n ≤ is.length → closed is (stepN is s b n) ∧ ∀ k, gt (stepN is s b n) k ↔ ∃ i p, i < n ∧ seed is s b i p ∧ chain is p k ∧ k ≤ is.length
  | 0, _ => ⟨closed_rep is _, fun k => by
      constructor
      · intro h
        unfold gt at h
        simp [stepN, List.getD_eq_getElem?_getD, List.getElem?_replicate] at h
        split at h <;> simp at h
      · rintro ⟨i, p, h, _⟩; omega⟩
  | n + 1, hn => by
    obtain ⟨h1, h2⟩ := step_spec is s b n (by omega)
    simp only [stepN]
    by_cases hc : (s.getD n false && fitAt is n b) = true
    · rw [if_pos hc]
      simp only [Bool.and_eq_true] at hc
      obtain ⟨g1, g2⟩ := reach_spec is (is.length + 1) (if starAt is n then n else n + 1) (stepN is s b n) (stepN_len is s b n) (by split <;> omega) (by omega) (fun k hk _ a c => h1 k hk a c)
      refine ⟨g1, fun k => ?_⟩
      rw [g2 k, h2 k]
      constructor
      · rintro (⟨i, p, a, c, d⟩ | h)
        · exact ⟨i, p, by omega, c, d⟩
        · exact ⟨n, _, by omega, ⟨hc.1, hc.2, rfl⟩, h⟩
      · rintro ⟨i, p, a, c, d⟩
        by_cases e : i = n
        · subst e; rw [← c.2.2]; exact Or.inr d
        · exact Or.inl ⟨i, p, by omega, c, d⟩
    · rw [if_neg hc]
      refine ⟨h1, fun k => ?_⟩
      rw [h2 k]
      constructor
      · rintro ⟨i, p, a, c, d⟩; exact ⟨i, p, by omega, c, d⟩
      · rintro ⟨i, p, a, c, d⟩
        by_cases e : i = n
        · subst e; exact absurd (by simp only [Bool.and_eq_true]; exact ⟨c.1, c.2.1⟩) hc
        · exact ⟨i, p, by omega, c, d⟩

/-- Where so many items can end. -/
def endI (a : Bool) (is : List Item) (tx : List UInt8) (i : Nat) : Nat → Bool := endsE a tx (is.take i) (firstE a)

theorem endI_zero (a : Bool) (is : List Item) (tx : List UInt8) : endI a is tx 0 = firstE a := rfl

theorem endI_succ (a : Bool) {is : List Item} (tx : List UInt8) {i : Nat} {x : Item} (h : is[i]? = some x) : endI a is tx (i + 1) = nextE x.2 (fitTx tx x.1) (endI a is tx i) := by
  have hs : is.take (i + 1) = is.take i ++ [x] := by rw [List.take_add_one, h]; rfl
  have key : ∀ (l : List Item) (E : Nat → Bool), endsE a tx (l ++ [x]) E = nextE x.2 (fitTx tx x.1) (endsE a tx l E) := by
    intro l
    induction l with
    | nil => intro E; rfl
    | cons y l ih => intro E; simp only [List.cons_append, endsE]; exact ih _
  unfold endI; rw [hs, key]

/-- What the state i says ahead of the j-th byte. -/
def stI (a : Bool) (is : List Item) (tx : List UInt8) (i j : Nat) : Bool := if starAt is i then endI a is tx (i + 1) j else endI a is tx i j

def okSt (a : Bool) (is : List Item) (tx : List UInt8) (j : Nat) (s : List Bool) : Prop := s.length = is.length + 1 ∧ closed is s ∧ ∀ i, i ≤ is.length → (gt s i ↔ stI a is tx i j = true)

theorem item_of {is : List Item} {i : Nat} (h : i < is.length) : ∃ x, is[i]? = some x ∧ starAt is i = x.2 ∧ ∀ b, fitAt is i b = x.1.testBit b :=
  ⟨is[i], List.getElem?_eq_getElem h, by simp [starAt, List.getElem?_eq_getElem h], fun b => by simp [fitAt, List.getElem?_eq_getElem h]⟩

theorem endI_next (a : Bool) {is : List Item} {tx : List UInt8} {j : Nat} {c : UInt8} (hc : tx[j]? = some c) {i : Nat} (hi : i < is.length) :
    endI a is tx (i + 1) (j + 1) = ((starAt is i && endI a is tx i (j + 1)) || (stI a is tx i j && fitAt is i c.toNat)) := by
  obtain ⟨x, hx, h1, h2⟩ := item_of hi
  have hf : fitTx tx x.1 j = x.1.testBit c.toNat := by simp [fitTx, hc]
  have hE := endI_succ a tx hx
  unfold stI
  rw [hE, h1, h2]
  cases x.2 <;> simp [nextE, hf]

theorem endI_first (a : Bool) {is : List Item} {tx : List UInt8} {i : Nat} (hi : i < is.length) : endI a is tx (i + 1) 0 = (starAt is i && endI a is tx i 0) := by
  obtain ⟨x, hx, h1, h2⟩ := item_of hi
  rw [endI_succ a tx hx, h1]; rfl

theorem first_chain (a : Bool) (is : List Item) (tx : List UInt8) : ∀ i, i ≤ is.length → (endI a is tx i 0 = true ↔ chain is 0 i)
  | 0, _ => by simp [endI_zero, firstE, chain]
  | i + 1, h => by
    rw [endI_first a (by omega), Bool.and_eq_true, first_chain a is tx i (by omega)]
    constructor
    · rintro ⟨h1, _, h2⟩
      refine ⟨by omega, fun m a b => ?_⟩
      by_cases e : m = i
      · rw [e]; exact h1
      · exact h2 m a (by omega)
    · rintro ⟨_, h2⟩
      exact ⟨h2 i (by omega) (by omega), by omega, fun m a b => h2 m a (by omega)⟩

theorem ok_first (a : Bool) (is : List Item) (tx : List UInt8) : okSt a is tx 0 (reachM is (is.length + 1) 0 (List.replicate (is.length + 1) false)) := by
  obtain ⟨g1, g2⟩ := reach_spec is (is.length + 1) 0 (List.replicate (is.length + 1) false) (by simp) (by omega) (by omega) (fun k hk _ a c => closed_rep is _ k hk a c)
  refine ⟨by rw [reachM_len]; simp, g1, fun i hi => ?_⟩
  rw [g2 i]
  have hno : ¬ gt (List.replicate (is.length + 1) false) i := by
    unfold gt
    simp [List.getD_eq_getElem?_getD, List.getElem?_replicate]
    split <;> simp
  unfold stI
  by_cases hs : starAt is i = true
  · have := star_lt hs
    rw [if_pos hs, endI_first a this, hs, Bool.true_and, first_chain a is tx i hi]
    simp [hno, hi]
  · rw [if_neg hs, first_chain a is tx i hi]
    simp [hno, hi]

/-- Behind a byte: what is there is what can be. -/
theorem ok_next (a : Bool) {is : List Item} {tx : List UInt8} {j : Nat} {c : UInt8} (hc : tx[j]? = some c) {s t : List Bool} (hok : okSt a is tx j s) (hl : t.length = is.length + 1) (hcl : closed is t)
    (ht : ∀ k, k ≤ is.length → (gt t k ↔ (∃ i p, i < is.length ∧ seed is s c.toNat i p ∧ chain is p k) ∨ (a = false ∧ chain is 0 k))) : okSt a is tx (j + 1) t := by
  refine ⟨hl, hcl, ?_⟩
  -- arrivals: by the items ahead
  have arr : ∀ k, k ≤ is.length → (endI a is tx k (j + 1) = true ↔ (∃ i p, i < k ∧ i < is.length ∧ seed is s c.toNat i p ∧ chain is p k) ∨ (a = false ∧ chain is 0 k)) := by
    intro k
    induction k with
    | zero =>
      intro _
      rw [endI_zero]
      constructor
      · intro h; right; simp [firstE] at h; exact ⟨h, Nat.le_refl _, fun m a b => by omega⟩
      · rintro (⟨i, p, h, _⟩ | ⟨h, _⟩)
        · omega
        · simp [firstE, h]
    | succ k ih =>
      intro hk
      have ih := ih (by omega)
      have hst := hok.2.2 k (by omega)
      rw [endI_next a hc (show k < is.length by omega), Bool.or_eq_true, Bool.and_eq_true, Bool.and_eq_true, ih, ← hst]
      constructor
      · rintro (⟨h1, ⟨i, p, a1, a2, a3, a4⟩ | ⟨b1, b2⟩⟩ | ⟨h1, h2⟩)
        · refine Or.inl ⟨i, p, by omega, a2, a3, by have := a4.1; omega, fun m x y => ?_⟩
          by_cases e : m = k
          · rw [e]; exact h1
          · exact a4.2 m x (by omega)
        · refine Or.inr ⟨b1, by omega, fun m x y => ?_⟩
          by_cases e : m = k
          · rw [e]; exact h1
          · exact b2.2 m x (by omega)
        · refine Or.inl ⟨k, _, by omega, by omega, ⟨h1, h2, rfl⟩, by split <;> omega, fun m x y => ?_⟩
          by_cases hs : starAt is k = true
          · rw [if_pos hs] at x
            have : m = k := by omega
            rw [this]; exact hs
          · rw [if_neg hs] at x; omega
      · rintro (⟨i, p, a1, a2, a3, a4⟩ | ⟨b1, b2⟩)
        · by_cases e : i = k
          · subst e; exact Or.inr ⟨a3.1, a3.2.1⟩
          · have hp : p ≤ k := by have := a3.2.2; split at this <;> omega
            exact Or.inl ⟨a4.2 k hp (by omega), Or.inl ⟨i, p, by omega, a2, a3, hp, fun m x y => a4.2 m x (by omega)⟩⟩
        · exact Or.inl ⟨b2.2 k (by omega) (by omega), Or.inr ⟨b1, by omega, fun m x y => b2.2 m x (by omega)⟩⟩
  intro k hk
  rw [ht k hk]
  have hmain : (∃ i p, i < is.length ∧ seed is s c.toNat i p ∧ chain is p k) ↔ (∃ i p, i < k ∧ i < is.length ∧ seed is s c.toNat i p ∧ chain is p k) ∨ (starAt is k = true ∧ gt s k ∧ fitAt is k c.toNat = true) := by
    constructor
    · rintro ⟨i, p, a1, a2, a3⟩
      by_cases e : i < k
      · exact Or.inl ⟨i, p, e, a1, a2, a3⟩
      · have h1 := a3.1
        have h2 := a2.2.2
        by_cases hs : starAt is i = true
        · rw [if_pos hs] at h2
          have : i = k := by omega
          subst this; exact Or.inr ⟨hs, a2.1, a2.2.1⟩
        · rw [if_neg hs] at h2; omega
    · rintro (⟨i, p, _, a1, a2, a3⟩ | ⟨h1, h2, h3⟩)
      · exact ⟨i, p, a1, a2, a3⟩
      · exact ⟨k, k, star_lt h1, ⟨h2, h3, by rw [if_pos h1]⟩, Nat.le_refl _, fun m a b => by omega⟩
  rw [hmain]
  unfold stI
  have hst := hok.2.2 k hk
  by_cases hs : starAt is k = true
  · have hlt := star_lt hs
    rw [if_pos hs, endI_next a hc hlt, hs, Bool.true_and, Bool.or_eq_true, arr k hk, Bool.and_eq_true, ← hst]
    constructor
    · rintro ((h | ⟨_, h2, h3⟩) | h)
      · exact Or.inl (Or.inl h)
      · exact Or.inr ⟨h2, h3⟩
      · exact Or.inl (Or.inr h)
    · rintro ((h | h) | ⟨h2, h3⟩)
      · exact Or.inl (Or.inl h)
      · exact Or.inr h
      · exact Or.inl (Or.inr ⟨rfl, h2, h3⟩)
  · rw [if_neg hs, arr k hk]
    constructor
    · rintro ((h | ⟨h1, _⟩) | h)
      · exact Or.inl h
      · exact absurd h1 hs
      · exact Or.inr h
    · rintro (h | h)
      · exact Or.inl (Or.inl h)
      · exact Or.inr h

theorem star_end (is : List Item) : starAt is is.length = false := by simp [starAt]

theorem ok_step (a : Bool) {is : List Item} {tx : List UInt8} {j : Nat} {c : UInt8} (hc : tx[j]? = some c) {s : List Bool} (hok : okSt a is tx j s) :
    okSt a is tx (j + 1) (if a then stepM is s c.toNat else reachM is (is.length + 1) 0 (stepM is s c.toNat)) := by
  obtain ⟨g1, g2⟩ := step_spec is s c.toNat is.length (Nat.le_refl _)
  have hl := stepN_len is s c.toNat is.length
  cases a with
  | true =>
    refine ok_next true hc hok hl g1 fun k hk => ?_
    have := g2 k
    simp only [if_true, Bool.true_eq_false, false_and, or_false]
    refine this.trans ⟨?_, ?_⟩
    · rintro ⟨i, p, h1, h2, h3, _⟩; exact ⟨i, p, h1, h2, h3⟩
    · rintro ⟨i, p, h1, h2, h3⟩; exact ⟨i, p, h1, h2, h3, hk⟩
  | false =>
    obtain ⟨r1, r2⟩ := reach_spec is (is.length + 1) 0 (stepN is s c.toNat is.length) hl (by omega) (by omega) (fun k hk _ a b => g1 k hk a b)
    refine ok_next false hc hok (by rw [if_neg (by simp), reachM_len]; exact hl) (by rw [if_neg (by simp)]; exact r1) fun k hk => ?_
    rw [if_neg (by simp)]
    refine (r2 k).trans ?_
    rw [g2 k]
    simp only [true_and]
    constructor
    · rintro (⟨i, p, h1, h2, h3, _⟩ | ⟨h, _⟩)
      · exact Or.inl ⟨i, p, h1, h2, h3⟩
      · exact Or.inr h
    · rintro (⟨i, p, h1, h2, h3⟩ | h)
      · exact Or.inl ⟨i, p, h1, h2, h3, hk⟩
      · exact Or.inr ⟨h, hk⟩

theorem walk_spec (a z : Bool) (is : List Item) (tx : List UInt8) : ∀ (m j : Nat) (s : List Bool), tx.length = j + m → okSt a is tx j s →
    (walkM a z is (tx.drop j) s = true ↔ if z then endI a is tx is.length tx.length = true else ∃ k, j ≤ k ∧ k ≤ tx.length ∧ endI a is tx is.length k = true)
  | 0, j, s, hl, hok => by
    have hd : tx.drop j = [] := List.drop_eq_nil_of_le (by omega)
    have hlast := hok.2.2 is.length (Nat.le_refl _)
    unfold stI at hlast
    rw [star_end, if_neg (by simp)] at hlast
    have hj : j = tx.length := by omega
    rw [hd]
    simp only [walkM]
    unfold gt at hlast
    rw [hlast, hj]
    cases z with
    | true => simp
    | false =>
      simp only [Bool.false_eq_true, if_false]
      exact ⟨fun h => ⟨_, Nat.le_refl _, Nat.le_refl _, h⟩, fun ⟨k, h1, h2, h3⟩ => by rwa [show k = tx.length by omega] at h3⟩
  | m + 1, j, s, hl, hok => by
    have hjl : j < tx.length := by omega
    have hd : tx.drop j = tx[j] :: tx.drop (j + 1) := List.drop_eq_getElem_cons hjl
    have hlast := hok.2.2 is.length (Nat.le_refl _)
    unfold stI at hlast
    rw [star_end, if_neg (by simp)] at hlast
    unfold gt at hlast
    rw [hd]
    simp only [walkM]
    have ih := walk_spec a z is tx m (j + 1) _ (by omega) (ok_step a (List.getElem?_eq_getElem hjl) hok)
    cases z with
    | true =>
      simp only [Bool.not_true, Bool.and_false, Bool.false_eq_true, if_false, if_true] at ih ⊢
      exact ih
    | false =>
      simp only [Bool.not_false, Bool.and_true, Bool.false_eq_true, if_false] at ih ⊢
      by_cases h0 : s.getD is.length false = true
      · rw [if_pos h0]
        exact ⟨fun _ => ⟨j, Nat.le_refl _, by omega, hlast.1 h0⟩, fun _ => rfl⟩
      · rw [if_neg h0, ih]
        constructor
        · rintro ⟨k, h1, h2, h3⟩; exact ⟨k, by omega, h2, h3⟩
        · rintro ⟨k, h1, h2, h3⟩
          by_cases e : k = j
          · subst e; exact absurd (hlast.2 h3) h0
          · exact ⟨k, by omega, h2, h3⟩

theorem found_iff (a z : Bool) (is : List Item) (tx : List UInt8) : foundM a z is tx = true ↔ if z then endI a is tx is.length tx.length = true else ∃ k, k ≤ tx.length ∧ endI a is tx is.length k = true := by
  have := walk_spec a z is tx tx.length 0 _ (by omega) (ok_first a is tx)
  rw [List.drop_zero] at this
  unfold foundM
  rw [this]
  cases z with
  | true => simp
  | false => simp

theorem endI_all (a : Bool) (is : List Item) (tx : List UInt8) : endI a is tx is.length = endsE a tx is (firstE a) := by unfold endI; rw [List.take_length]

/-- Both find the same. -/
theorem found_ref (a z : Bool) (is : List Item) (tx : List UInt8) : foundM a z is tx = refM a z is tx := by
  rw [Bool.eq_iff_iff, found_iff, endI_all]
  unfold refM
  cases z with
  | true => simp
  | false =>
    simp only [Bool.false_eq_true, if_false, List.any_eq_true, List.mem_range]
    constructor
    · rintro ⟨k, h1, h2⟩; exact ⟨k, by omega, h2⟩
    · rintro ⟨k, h1, h2⟩; exact ⟨k, by omega, h2⟩

end Go.Proofs.YtaeleljlpcjcdaaGreatDoor
namespace Go.Proofs.YtaeleljlpcjcdaaGreatDoor
open Go Go.Sx

theorem f_needle_Match (p tx : ByteArray) (hp : p.size < 4611686018427387904) (ht : tx.size < 4611686018427387904) : Meets Tryz.prog E0 n_needle_Match [.t (.v (.string p)), .t (.v (.string tx))] [] (.tp [Bo (if (compM p.data.toList).2 = 0 then foundM (compM p.data.toList).1.1 (compM p.data.toList).1.2.1 (compM p.data.toList).1.2.2 tx.data.toList else false), I (compM p.data.toList).2]) [] := by
  refine st0 m_needle_Match ?_
  simp only [go_sem, s_needle_Match]
  refine Cl_plain (f_needle_Compile p hp) ?_
  have hlen := compM_len p.data.toList
  generalize compM p.data.toList = x at *
  obtain ⟨⟨a, z, is⟩, e⟩ := x
  simp only at hlen
  simp only [go_sem]
  refine W_split rfl (fun h => ?_) (fun h => ?_)
  · simp at h
    simp only [go_sem]
    refine wE ?_
    simp only [go_sem, r_needle_Match]
    simp [h]
  · simp at h
    simp only [go_sem]
    refine Cl_plain (f_needle_Found a z is (by omega) tx ht) ?_
    simp only [go_sem]
    refine wE ?_
    simp only [go_sem, r_needle_Match]
    simp [h]

theorem alive2 : (if (compM (bs [94, 97, 46, 42, 98, 36]).data.toList).2 = 0 then foundM (compM (bs [94, 97, 46, 42, 98, 36]).data.toList).1.1 (compM (bs [94, 97, 46, 42, 98, 36]).data.toList).1.2.1 (compM (bs [94, 97, 46, 42, 98, 36]).data.toList).1.2.2 (bs [97, 120, 120, 98]).data.toList else false) = true := by decide +kernel
theorem alive3 : (compM (bs [94, 97, 46, 42, 98, 36]).data.toList).2 = 0 := by decide +kernel
theorem alive4 : (if (compM (bs [94, 97, 46, 42, 98, 36]).data.toList).2 = 0 then foundM (compM (bs [94, 97, 46, 42, 98, 36]).data.toList).1.1 (compM (bs [94, 97, 46, 42, 98, 36]).data.toList).1.2.1 (compM (bs [94, 97, 46, 42, 98, 36]).data.toList).1.2.2 (bs [97, 120, 120, 98, 99]).data.toList else false) = false := by decide +kernel
theorem alive5 : (compM (bs [97, 42, 42]).data.toList).2 = 10 := by decide +kernel

theorem star_comp : compM (bs [46, 42]).data.toList = ((false, false, [(full, true)]), 0) := by decide +kernel

theorem all_star (a : Bool) (tx : List UInt8) : ∀ k, k ≤ tx.length → nextE true (fitTx tx full) (firstE a) k = true
  | 0, _ => by simp [nextE, firstE]
  | k + 1, h => by
    have ih := all_star a tx k (by omega)
    obtain ⟨c, hc⟩ := get_of_lt (l := tx) (i := k) (by omega)
    have : fitTx tx full k = true := by
      simp only [fitTx, hc, Option.map_some, Option.getD_some]
      exact full_bit _ (u8_lt c)
    simp [nextE, ih, this]

theorem found_star (a z : Bool) (tx : List UInt8) : foundM a z [(full, true)] tx = true := by
  rw [found_iff]
  rw [show ([(full, true)] : List Item).length = 1 from rfl, endI_succ a tx (i := 0) (x := (full, true)) rfl, endI_zero]
  split
  · exact all_star a tx _ (Nat.le_refl _)
  · exact ⟨0, by omega, all_star a tx 0 (by omega)⟩

theorem next_back {star : Bool} {fit E : Nat → Bool} : ∀ {k : Nat}, nextE star fit E k = true → ∃ j, j ≤ k ∧ E j = true
  | 0, h => by
    simp [nextE] at h
    exact ⟨0, by omega, h.2⟩
  | k + 1, h => by
    simp only [nextE] at h
    split at h
    · simp only [Bool.or_eq_true, Bool.and_eq_true] at h
      rcases h with h | h
      · exact ⟨k + 1, by omega, h⟩
      · obtain ⟨j, hj, e⟩ := next_back h.1
        exact ⟨j, by omega, e⟩
    · simp only [Bool.and_eq_true] at h
      exact ⟨k, by omega, h.1⟩

theorem endI_take (a : Bool) (is : List Item) (tx : List UInt8) (m : Nat) : endI a (is.take m) tx (is.take m).length = endI a is tx m := by
  unfold endI
  rw [List.take_length]

theorem found_less {a z : Bool} {is : List Item} {tx : List UInt8} (hl : is ≠ []) (h : foundM a z is tx = true) : foundM a false (is.take (is.length - 1)) tx = true := by
  rw [found_iff] at h ⊢
  have hk : ∃ k, k ≤ tx.length ∧ endI a is tx is.length k = true := by
    cases z
    · simpa using h
    · exact ⟨tx.length, Nat.le_refl _, by simpa using h⟩
  obtain ⟨k, hk, e⟩ := hk
  have hp : 0 < is.length := List.length_pos_iff.2 hl
  obtain ⟨x, hx⟩ := get_of_lt (l := is) (i := is.length - 1) (by omega)
  have := endI_succ a tx hx
  rw [show is.length - 1 + 1 = is.length by omega] at this
  rw [this] at e
  obtain ⟨j, hj, ej⟩ := next_back e
  simp only [Bool.false_eq_true, if_false]
  exact ⟨j, by omega, by rw [endI_take]; exact ej⟩

theorem next_mono {star : Bool} {fit fit' E E' : Nat → Bool} (hf : ∀ k, fit k = true → fit' k = true) (hE : ∀ k, E k = true → E' k = true) : ∀ k, nextE star fit E k = true → nextE star fit' E' k = true
  | 0, h => by
    simp only [nextE, Bool.and_eq_true] at h ⊢
    exact ⟨h.1, hE _ h.2⟩
  | k + 1, h => by
    have ih := next_mono (star := star) hf hE k
    simp only [nextE] at h ⊢
    split
    · rename_i hs
      rw [if_pos hs] at h
      simp only [Bool.or_eq_true, Bool.and_eq_true] at h ⊢
      rcases h with h | h
      · exact Or.inl (hE _ h)
      · exact Or.inr ⟨ih h.1, hf _ h.2⟩
    · rename_i hs
      rw [if_neg hs] at h
      simp only [Bool.and_eq_true] at h ⊢
      exact ⟨hE _ h.1, hf _ h.2⟩

theorem fit_mono (x y : List UInt8) (n k : Nat) (h : fitTx x n k = true) : fitTx (x ++ y) n k = true := by
  unfold fitTx at h ⊢
  cases hx : x[k]? with
  | none => rw [hx] at h; simp at h
  | some c =>
    have hk : k < x.length := by
      rcases Nat.lt_or_ge k x.length with h | h
      · exact h
      · rw [List.getElem?_eq_none h] at hx; cases hx
    rw [List.getElem?_append_left hk]
    exact h

theorem ends_mono (a : Bool) (x y : List UInt8) : ∀ (is : List Item) (E E' : Nat → Bool), (∀ k, E k = true → E' k = true) → ∀ k, endsE a x is E k = true → endsE a (x ++ y) is E' k = true
  | [], _, _, h, k, e => h k e
  | i :: is, _, _, h, k, e => ends_mono a x y is _ _ (fun k => next_mono (fit_mono x y i.1) h k) k e

theorem found_more {a : Bool} {is : List Item} {x : List UInt8} (y : List UInt8) (h : foundM a false is x = true) : foundM a false is (x ++ y) = true := by
  rw [found_iff] at h ⊢
  simp only [Bool.false_eq_true, if_false] at h ⊢
  obtain ⟨k, hk, e⟩ := h
  refine ⟨k, by simp; omega, ?_⟩
  rw [endI_all] at e ⊢
  exact ends_mono a x y is _ _ (fun _ h => h) k e

theorem str_add {x y : ByteArray} (h : x.size + y.size < 9223372036854775808) : binStr .add x y = some (.string (x ++ y)) := by
  have : ¬ ((x.size + y.size : Nat) : Int) > IntKind.i64.max := by simp [IntKind.max, IntKind.signed, IntKind.bits]; omega
  simp only [binStr, if_neg this]

end Go.Proofs.YtaeleljlpcjcdaaGreatDoor
namespace Go.Proofs.YtaeleljlpcjcdaaGreatDoor
open Go Go.Sx

theorem f_ref09_one (b : Nat) (hb : b < 256) : Meets Tryz.prog E0 n_ref09_one [U8 b] [] (itemV (2 ^ b, false)) [] := by
  refine st0 m_ref09_one ?_
  have h4 : b / 64 = 0 ∨ b / 64 = 1 ∨ b / 64 = 2 ∨ b / 64 = 3 := by omega
  have i4 : ∀ j : Nat, j < 4 → (j : Int) < ((4 : Nat) : Int) := by omega
  have hz : 0 ||| 2 ^ b = 2 ^ b := Nat.zero_or _
  have hmin : min (b % 64) 64 = b % 64 := Nat.min_eq_left (by omega)
  have p0 : 2 ^ (b % 64) % 18446744073709551616 = 2 ^ (b % 64) := Nat.mod_eq_of_lt (Nat.pow_lt_pow_right (n := 64) (by decide) (by omega))
  have wz : ∀ k, word 0 k = 0 := by intro k; simp [word]
  have ws : ∀ k, b / 64 = k → word (2 ^ b) k = 2 ^ (b % 64) := by intro k h; rw [← hz, word_or_same 0 k b h, wz, Nat.zero_or]
  have wo : ∀ k, b / 64 ≠ k → word (2 ^ b) k = 0 := by intro k h; rw [← hz, word_or_other 0 k b h, wz]
  rcases h4 with h4 | h4 | h4 | h4
  · ((try simp only [go_sem, s_ref09_one, h4, i4 0 (by decide), hmin, p0, show 0 % 256 = 0 from rfl]); repeat (simp (disch := omega) only [wrap_i64_of, i64_quo, i64_rem, sdiv, smod]; (try simp only [go_sem, s_ref09_one, h4, i4 0 (by decide), hmin, p0, show 0 % 256 = 0 from rfl])))
    refine wE ?_
    simp only [go_sem, r_ref09_one, itemV, setL_word, ws 0 h4, wo 1 (by omega), wo 2 (by omega), wo 3 (by omega)]
  · ((try simp only [go_sem, s_ref09_one, h4, i4 1 (by decide), hmin, p0, show 1 % 256 = 1 from rfl]); repeat (simp (disch := omega) only [wrap_i64_of, i64_quo, i64_rem, sdiv, smod]; (try simp only [go_sem, s_ref09_one, h4, i4 1 (by decide), hmin, p0, show 1 % 256 = 1 from rfl])))
    refine wE ?_
    simp only [go_sem, r_ref09_one, itemV, setL_word, ws 1 h4, wo 0 (by omega), wo 2 (by omega), wo 3 (by omega)]
  · ((try simp only [go_sem, s_ref09_one, h4, i4 2 (by decide), hmin, p0, show 2 % 256 = 2 from rfl]); repeat (simp (disch := omega) only [wrap_i64_of, i64_quo, i64_rem, sdiv, smod]; (try simp only [go_sem, s_ref09_one, h4, i4 2 (by decide), hmin, p0, show 2 % 256 = 2 from rfl])))
    refine wE ?_
    simp only [go_sem, r_ref09_one, itemV, setL_word, ws 2 h4, wo 0 (by omega), wo 1 (by omega), wo 3 (by omega)]
  · ((try simp only [go_sem, s_ref09_one, h4, i4 3 (by decide), hmin, p0, show 3 % 256 = 3 from rfl]); repeat (simp (disch := omega) only [wrap_i64_of, i64_quo, i64_rem, sdiv, smod]; (try simp only [go_sem, s_ref09_one, h4, i4 3 (by decide), hmin, p0, show 3 % 256 = 3 from rfl])))
    refine wE ?_
    simp only [go_sem, r_ref09_one, itemV, setL_word, ws 3 h4, wo 0 (by omega), wo 1 (by omega), wo 2 (by omega)]

/-- Bytes, each by its own flag. -/
def bitsL (n : Nat) : List AV := (List.range 256).map fun i => Bo (n.testBit i)

theorem bits_zero : (List.replicate 256 (Bo false)) = bitsL 0 := by
  apply List.ext_getElem
  · rw [List.length_replicate, bitsL, List.length_map, List.length_range]
  · intro i h1 h2
    rw [List.getElem_replicate]
    simp only [bitsL, List.getElem_map, List.getElem_range, Nat.zero_testBit]

theorem bits_get (n i : Nat) (h : i < 256) : (bitsL n)[i]? = some (Bo (n.testBit i)) := by
  simp [bitsL, h]

theorem bits_set (n i : Nat) (h : i < 256) : (bitsL n).set i (Bo true) = bitsL (n ||| 2 ^ i) := by
  apply List.ext_getElem
  · simp [bitsL]
  · intro j h1 h2
    rw [List.getElem_set]
    simp only [bitsL, List.getElem_map, List.getElem_range, Nat.testBit_or, Nat.testBit_two_pow]
    split
    · rename_i e; subst e; simp
    · rename_i e; simp [e]

set_option maxRecDepth 20000 in
theorem lit256 : ([T.v (.bool false), T.v (.bool false), T.v (.bool false), T.v (.bool false), T.v (.bool false), T.v (.bool false), T.v (.bool false), T.v (.bool false), T.v (.bool false), T.v (.bool false), T.v (.bool false), T.v (.bool false), T.v (.bool false), T.v (.bool false), T.v (.bool false), T.v (.bool false), T.v (.bool false), T.v (.bool false), T.v (.bool false), T.v (.bool false), T.v (.bool false), T.v (.bool false), T.v (.bool false), T.v (.bool false), T.v (.bool false), T.v (.bool false), T.v (.bool false), T.v (.bool false), T.v (.bool false), T.v (.bool false), T.v (.bool false), T.v (.bool false), T.v (.bool false), T.v (.bool false), T.v (.bool false), T.v (.bool false), T.v (.bool false), T.v (.bool false), T.v (.bool false), T.v (.bool false), T.v (.bool false), T.v (.bool false), T.v (.bool false), T.v (.bool false), T.v (.bool false), T.v (.bool false), T.v (.bool false), T.v (.bool false), T.v (.bool false), T.v (.bool false), T.v (.bool false), T.v (.bool false), T.v (.bool false), T.v (.bool false), T.v (.bool false), T.v (.bool false), T.v (.bool false), T.v (.bool false), T.v (.bool false), T.v (.bool false), T.v (.bool false), T.v (.bool false), T.v (.bool false), T.v (.bool false), T.v (.bool false), T.v (.bool false), T.v (.bool false), T.v (.bool false), T.v (.bool false), T.v (.bool false), T.v (.bool false), T.v (.bool false), T.v (.bool false), T.v (.bool false), T.v (.bool false), T.v (.bool false), T.v (.bool false), T.v (.bool false), T.v (.bool false), T.v (.bool false), T.v (.bool false), T.v (.bool false), T.v (.bool false), T.v (.bool false), T.v (.bool false), T.v (.bool false), T.v (.bool false), T.v (.bool false), T.v (.bool false), T.v (.bool false), T.v (.bool false), T.v (.bool false), T.v (.bool false), T.v (.bool false), T.v (.bool false), T.v (.bool false), T.v (.bool false), T.v (.bool false), T.v (.bool false), T.v (.bool false), T.v (.bool false), T.v (.bool false), T.v (.bool false), T.v (.bool false), T.v (.bool false), T.v (.bool false), T.v (.bool false), T.v (.bool false), T.v (.bool false), T.v (.bool false), T.v (.bool false), T.v (.bool false), T.v (.bool false), T.v (.bool false), T.v (.bool false), T.v (.bool false), T.v (.bool false), T.v (.bool false), T.v (.bool false), T.v (.bool false), T.v (.bool false), T.v (.bool false), T.v (.bool false), T.v (.bool false), T.v (.bool false), T.v (.bool false), T.v (.bool false), T.v (.bool false), T.v (.bool false), T.v (.bool false), T.v (.bool false), T.v (.bool false), T.v (.bool false), T.v (.bool false), T.v (.bool false), T.v (.bool false), T.v (.bool false), T.v (.bool false), T.v (.bool false), T.v (.bool false), T.v (.bool false), T.v (.bool false), T.v (.bool false), T.v (.bool false), T.v (.bool false), T.v (.bool false), T.v (.bool false), T.v (.bool false), T.v (.bool false), T.v (.bool false), T.v (.bool false), T.v (.bool false), T.v (.bool false), T.v (.bool false), T.v (.bool false), T.v (.bool false), T.v (.bool false), T.v (.bool false), T.v (.bool false), T.v (.bool false), T.v (.bool false), T.v (.bool false), T.v (.bool false), T.v (.bool false), T.v (.bool false), T.v (.bool false), T.v (.bool false), T.v (.bool false), T.v (.bool false), T.v (.bool false), T.v (.bool false), T.v (.bool false), T.v (.bool false), T.v (.bool false), T.v (.bool false), T.v (.bool false), T.v (.bool false), T.v (.bool false), T.v (.bool false), T.v (.bool false), T.v (.bool false), T.v (.bool false), T.v (.bool false), T.v (.bool false), T.v (.bool false), T.v (.bool false), T.v (.bool false), T.v (.bool false), T.v (.bool false), T.v (.bool false), T.v (.bool false), T.v (.bool false), T.v (.bool false), T.v (.bool false), T.v (.bool false), T.v (.bool false), T.v (.bool false), T.v (.bool false), T.v (.bool false), T.v (.bool false), T.v (.bool false), T.v (.bool false), T.v (.bool false), T.v (.bool false), T.v (.bool false), T.v (.bool false), T.v (.bool false), T.v (.bool false), T.v (.bool false), T.v (.bool false), T.v (.bool false), T.v (.bool false), T.v (.bool false), T.v (.bool false), T.v (.bool false), T.v (.bool false), T.v (.bool false), T.v (.bool false), T.v (.bool false), T.v (.bool false), T.v (.bool false), T.v (.bool false), T.v (.bool false), T.v (.bool false), T.v (.bool false), T.v (.bool false), T.v (.bool false), T.v (.bool false), T.v (.bool false), T.v (.bool false), T.v (.bool false), T.v (.bool false), T.v (.bool false), T.v (.bool false), T.v (.bool false), T.v (.bool false), T.v (.bool false), T.v (.bool false), T.v (.bool false), T.v (.bool false), T.v (.bool false), T.v (.bool false), T.v (.bool false), T.v (.bool false), T.v (.bool false), T.v (.bool false), T.v (.bool false), T.v (.bool false), T.v (.bool false), T.v (.bool false), T.v (.bool false), T.v (.bool false), T.v (.bool false), T.v (.bool false), T.v (.bool false), T.v (.bool false)] : List T) = List.replicate 256 (.v (.bool false)) := rfl

/-- The bits, of those below one, that are set or that are not. -/
def selM (n : Nat) (q : Bool) : Nat → Nat
  | 0 => 0
  | i + 1 => if (n.testBit i != q) then selM n q i ||| 2 ^ i else selM n q i

theorem selM_bit (n : Nat) (q : Bool) : ∀ (i j : Nat), (selM n q i).testBit j = (decide (j < i) && (n.testBit j != q))
  | 0, j => by simp [selM]
  | i + 1, j => by
    have ih := selM_bit n q i j
    simp only [selM]
    split
    · rename_i h
      rw [Nat.testBit_or, ih, Nat.testBit_two_pow]
      by_cases e : i = j
      · subst e; simp [h]
      · simp [e, show (j < i + 1) ↔ (j < i) from by omega]
    · rename_i h
      rw [ih]
      by_cases e : i = j
      · subst e; simp at h; simp [h]
      · simp [show (j < i + 1) ↔ (j < i) from by omega]

theorem selM_all {n : Nat} (hn : n < 2 ^ 256) (q : Bool) : selM n q 256 = if q then cplM n else n := by
  apply Nat.eq_of_testBit_eq
  intro j
  rw [selM_bit]
  by_cases hj : j < 256
  · cases q
    · simp [hj]
    · simp [hj, cpl_bit n j hn hj]
  · have hb : ∀ m, m < 2 ^ 256 → m.testBit j = false := fun m hm => Nat.testBit_lt_two_pow (Nat.lt_of_lt_of_le hm (Nat.pow_le_pow_right (by decide) (by omega)))
    cases q
    · simp [hj, hb n hn]
    · simp [hj, hb _ (cpl_lt n)]

end Go.Proofs.YtaeleljlpcjcdaaGreatDoor
namespace Go.Proofs.YtaeleljlpcjcdaaGreatDoor
open Go Go.Sx

theorem sR_NdRef3 {io : List Nat} {env : List (Nat × AV)} {sto : List (Nat × Ob)} {env' : List (Nat × AV)} {sto' : List (Nat × Ob)} (rn : List (Nat × Nat)) (sn : List Nat)
    (h1 : envS sto sn rn env sto' env' := by simp [envS, go_sem, wkV, wkL, AV.ids, idsL, keysOf, ren, stoOf, slTrees, AV.asOwn, rowPart, AV.isNil, shA, rowsT, cellsT, cellT, wkLL, setL, pst, bits_wk, bits_all, bits_ids] <;> assumption)
    (h2 : stoS sto sn rn sto' sto' := by simp [stoS, go_sem, wkV, wkL, wkO, AV.ids, Ob.ids, idsL, keysOf, ren, AV.one, stoOf, slTrees, AV.asOwn, rowPart, AV.isNil, shA, rowsT, cellsT, cellT, wkLL, setL, pst, bits_wk, bits_all, bits_ids] <;> assumption)
    (h3 : ((keysOf sto').map (ren rn)).Nodup := by simp [keysOf, ren]) (h4 : ∀ i ∈ sn, 100 ≤ i ∧ isRow (stoOf sto i) = true ∧ ∀ j ∈ keysOf sto', ren rn j ≠ i := by simp [stoOf, keysOf, ren])
    (h5 : ∀ i ∈ io, ren rn i = i := by simp [keysOf, ren]) (h6 : ∀ i ∈ keysOf sto', ren rn i ∈ io → i = ren rn i := by simp [keysOf, ren]) :
    Sub io ⟨envOf env, stoOf sto⟩ ⟨envOf env', stoOf sto'⟩ := subL rn sn h1 h2 h3 h4 h5 h6

theorem bools_wk (sto : Nat → Option Ob) (sn : List Nat) (f : Nat → Nat) (g : Nat → Bool) : ∀ l : List Nat, wkL sto sn f (l.map fun i => Bo (g i)) (l.map fun i => Bo (g i))
  | [] => by simp only [List.map_nil, wkL]
  | _ :: l => by
    simp only [List.map_cons, wkL]
    exact ⟨by simp only [wkV], bools_wk sto sn f g l⟩

theorem bits_wk (sto : Nat → Option Ob) (sn : List Nat) (f : Nat → Nat) (n : Nat) : wkL sto sn f (bitsL n) (bitsL n) := bools_wk sto sn f _ _

theorem bits_all (n : Nat) : (bitsL n).all AV.one = true := by
  rw [List.all_eq_true]
  intro x hx
  obtain ⟨i, _, rfl⟩ := List.mem_map.1 hx
  rfl

theorem bits_len (n : Nat) : (bitsL n).length = 256 := by rw [bitsL, List.length_map, List.length_range]

theorem bits_put (n i : Nat) (h : i < 256) : List.take i (bitsL n) ++ [Bo true] ++ List.drop (i + 1) (bitsL n) = bitsL (n ||| 2 ^ i) := by
  rw [← bits_set n i h, List.set_eq_take_append_cons_drop, if_pos (by rw [bits_len]; exact h), List.append_assoc]
  rfl

theorem bools_ids (g : Nat → Bool) : ∀ l : List Nat, idsL (l.map fun i => Bo (g i)) = []
  | [] => rfl
  | _ :: l => by
    simp only [List.map_cons, idsL, AV.ids, List.nil_append]
    exact bools_ids g l

theorem bits_ids (n : Nat) : idsL (bitsL n) = [] := bools_ids _ _

set_option maxRecDepth 20000 in
set_option maxHeartbeats 8000000 in
theorem f_ref09_class (s : ByteArray) (rest : List UInt8) (h : Suf s rest) (hs : s.size < 4611686018427387904) : Meets Tryz.prog E0 n_ref09_class [.t (.v (.string s)), I ((s.size - rest.length : Nat) : Int)] [] (.tp [itemV (if (classM rest).2.1 then (classM rest).1 else 0, false), I ((if (classM rest).2.1 then s.size - (classM rest).2.2.length else 0 : Nat) : Int), Bo (classM rest).2.1]) [] := by
  refine st0 m_ref09_class ?_
  have hl := h.len
  have hsl := ba_len s
  have hsuf : Suf s (skipM 94 rest).2 := (skip_suf 94 rest).trans h
  simp only [s_ref09_class]
  rw [lit256]
  have hb0 : (List.replicate 256 (T.v (.bool false))).map AV.t = bitsL 0 := by rw [← bits_zero, List.map_replicate]
  have hcs : (rest = [] ∧ skipM 94 rest = (false, [])) ∨ (∃ c r, rest = c :: r ∧ decide (c.toNat = 94) = false ∧ skipM 94 rest = (false, c :: r)) ∨ (∃ c r, rest = c :: r ∧ decide (c.toNat = 94) = true ∧ skipM 94 rest = (true, r)) := by
    cases rest with
    | nil => exact Or.inl ⟨rfl, rfl⟩
    | cons c r =>
      right
      by_cases e : c.toNat = 94
      · exact Or.inr ⟨c, r, rfl, by simp [e], by simp [skipM, e]⟩
      · exact Or.inl ⟨c, r, rfl, by simp [e], by simp [skipM, e]⟩
  unfold classM
  generalize hsk : skipM 94 rest = sk at *
  generalize hx : classX sk.2 false 0 = x
  have hxl : x.1 < 2 ^ 256 := by rw [← hx]; exact classX_lt _ _ _ _ (Nat.le_refl _) (Nat.two_pow_pos _)
  rcases hcs with ⟨rfl, hk⟩ | ⟨c, r, rfl, hc, hk⟩ | ⟨c, r, rfl, hc, hk⟩
  case' inl =>
    have d0 : decide (s.size < s.size) = false := by simp
    simp only [go_sem, hb0, d0, List.length_nil, Nat.sub_zero]
  case' inr.inl =>
    have hg := h.get 0
    simp only [List.length_cons, Nat.add_zero, List.getElem?_cons_zero] at hg hl
    have d0 : decide (s.size - (r.length + 1) < s.size) = true := by simp; omega
    simp only [go_sem, hb0, hg, hc, d0]
  case' inr.inr =>
    have hg := h.get 0
    simp only [List.length_cons, Nat.add_zero, List.getElem?_cons_zero] at hg hl
    have d0 : decide (s.size - (r.length + 1) < s.size) = true := by simp; omega
    have e1 : IntKind.i64.wrap (((s.size - (r.length + 1) : Nat) : Int) + 1) = ((s.size - r.length : Nat) : Int) := by rw [wrap_i64_of (by omega) (by omega)]; omega
    simp only [go_sem, hb0, hg, hc, d0, e1]
  all_goals
    refine W_loop (fun i : List UInt8 × Nat × Nat => i.1.length) (fun i => Suf s i.1 ∧ i.2.1 + i.1.length ≤ s.size ∧ i.2.2 < 2 ^ 256 ∧ classX i.1 (decide (0 < i.2.1)) i.2.2 = x)
      (fun i => [(0, .t (.v (.string s))), (1, I ((s.size - i.1.length : Nat) : Int)), (4, .ptr 100 0), (5, I 0), (6, Bo false), (7, .ptr 103 0), (8, Bo sk.1), (9, I i.2.1)])
      (fun i => [(100, .box (setL 0 ++ [Bo false])), (103, .box (bitsL i.2.2))])
      (sk.2, 0, 0) ⟨hsuf, by have := hsuf.len; simpa using this, Nat.two_pow_pos _, by simpa using hx⟩ ?_ ?_
    · subst hk
      dsimp only at *
      exact (sR_NdRef3 [] [])
    · clear hk
      rintro ⟨l, k, n⟩ ⟨hl, hk, hn, hr⟩
      simp only at hl hk hn hr
      have hlen := hl.len
      cases l with
      | nil =>
        simp only [classX] at hr
        subst hr
        have d0 : decide (s.size < s.size) = false := by simp
        simp only [go_sem, d0, List.length_nil, Nat.sub_zero, Nat.le_refl, decide_true, s_ref09_class_b2, s_ref09_class_t5]
        refine wE ?_
        simp only [go_sem, r_ref09_class]
        simp
      | cons c r =>
        have hc := u8_lt c
        have hlr : Suf s r := hl.tail
        simp only [List.length_cons] at hk hlen
        have g0 := hl.get 0
        simp only [List.length_cons, Nat.add_zero, List.getElem?_cons_zero] at g0
        have d0 : decide (s.size - (r.length + 1) < s.size) = true := by simp; omega
        have w2 : IntKind.i64.wrap ((s.size : Int) - 2) = (s.size : Int) - 2 := by rw [wrap_i64_of (by omega) (by omega)]
        cases h93 : decide (c.toNat = 93)
        · have q93 := of_decide_eq_false h93
          have wc : IntKind.i64.wrap (c.toNat : Int) = (c.toNat : Int) := by rw [wrap_i64_of (by omega) (by omega)]
          have dcc : decide (c.toNat < c.toNat) = false := by simp
          have one : rangedB r = false → classX r true (addM n c.toNat 1) = x := fun hrg => by
            rw [classX_one c r _ n q93 hrg, show n ||| 2 ^ c.toNat = addM n c.toNat 1 from rfl] at hr
            exact hr
          rcases (show r.length < 2 ∨ 2 ≤ r.length from by omega) with hr2 | hr2
          · have d1 : decide (((s.size - (r.length + 1) : Nat) : Int) < (s.size : Int) - 2) = false := by simp; omega
            have hrg : rangedB r = false := by
              match r, hr2 with
              | [], _ => rfl
              | [_], _ => rfl
            have hr := one hrg
            simp only [go_sem, s_ref09_class_b2, d0, g0, h93, w2, d1, dcc, wc, Bool.not_false]
            refine W_loop (fun j : Nat => c.toNat + 1 - c.toNat - j) (fun j => c.toNat + j ≤ c.toNat + 1)
              (fun j => [(0, .t (.v (.string s))), (1, I ((s.size - (r.length + 1) : Nat) : Int)), (4, .ptr 100 0), (5, I 0), (6, Bo false), (7, .ptr 103 0), (8, Bo sk.1), (9, I k), (11, U8 c.toNat), (12, I ((c.toNat + j : Nat) : Int))])
              (fun j => [(100, .box (setL 0 ++ [Bo false])), (103, .box (bitsL (addM n c.toNat j)))]) 0 (by omega) ?_ ?_
            · rw [show addM n c.toNat 0 = n from rfl]
              exact (sR_NdRef3 [] [])
            · intro j hj
              simp only [go_sem, s_ref09_class_b0, wc]
              refine W_split rfl (fun h1 => ?_) (fun h1 => ?_)
              · simp at h1
                have q1 : ((c.toNat + j : Nat) : Int) < ((256 : Nat) : Int) := by omega
                have q2 : c.toNat + j + 1 ≤ 256 := by omega
                have ej : IntKind.i64.wrap (((c.toNat + j : Nat) : Int) + 1) = ((c.toNat + (j + 1) : Nat) : Int) := by rw [wrap_i64_of (by omega) (by omega)]; omega
                have hput := bits_put (addM n c.toNat j) (c.toNat + j) (by omega)
                simp only [go_sem, q1, q2, ej, bits_len, hput]
                refine rd_of (j + 1) (by first | omega | (simp only; omega)) (by first | omega | (simp only; omega)) ?_
                rw [addM_snoc]
                exact (sR_NdRef3 [] [])
              · simp at h1
                have ej : j = c.toNat + 1 - c.toNat := by omega
                subst ej
                have ea : IntKind.i64.wrap (((s.size - (r.length + 1) : Nat) : Int) + 1) = ((s.size - r.length : Nat) : Int) := by rw [wrap_i64_of (by omega) (by omega)]; omega
                have ek : IntKind.i64.wrap ((k : Int) + 1) = ((k + 1 : Nat) : Int) := by rw [wrap_i64_of (by omega) (by omega)]; omega
                simp only [go_sem, s_ref09_class_t1, ea, ek]
                refine rd_of (r, k + 1, addM n c.toNat (c.toNat + 1 - c.toNat)) (by simp; try omega) ⟨hlr, by simp only; omega, addM_lt _ _ _ hn (by omega), by rw [Nat.add_sub_cancel_left]; simpa using hr⟩ ?_
                exact (sR_NdRef3 [] [])
          · obtain ⟨d, x2, r', rfl⟩ : ∃ d x2 r', r = d :: x2 :: r' := by
              match r, hr2 with
              | d :: x2 :: r', _ => exact ⟨d, x2, r', rfl⟩
            have hlc : (d :: x2 :: r').length = r'.length + 2 := rfl
            have g1 := hl.get 1
            have g2 := hl.get 2
            simp only [List.length_cons, List.getElem?_cons_succ, List.getElem?_cons_zero] at g0 g1 g2 d0 hlen hk hr2
            have d1 : decide (((s.size - (r'.length + 1 + 1 + 1) : Nat) : Int) < (s.size : Int) - 2) = true := by simp; omega
            have e1 : IntKind.i64.wrap (((s.size - (r'.length + 1 + 1 + 1) : Nat) : Int) + 1) = ((s.size - (r'.length + 1 + 1 + 1) + 1 : Nat) : Int) := by rw [wrap_i64_of (by omega) (by omega)]; omega
            have e2 : IntKind.i64.wrap (((s.size - (r'.length + 1 + 1 + 1) : Nat) : Int) + 2) = ((s.size - (r'.length + 1 + 1 + 1) + 2 : Nat) : Int) := by rw [wrap_i64_of (by omega) (by omega)]; omega
            have wx : IntKind.i64.wrap (x2.toNat : Int) = (x2.toNat : Int) := by have := u8_lt x2; rw [wrap_i64_of (by omega) (by omega)]
            have hx2 := u8_lt x2
            cases hd : decide (d.toNat = 45)
            · have qd := of_decide_eq_false hd
              have hr := one (by simp [rangedB, qd])
              simp only [go_sem, s_ref09_class_b2, List.length_cons, d0, g0, g1, g2, e1, e2, hd, h93, w2, d1, dcc, wc, Bool.not_false]
              refine W_loop (fun j : Nat => c.toNat + 1 - c.toNat - j) (fun j => c.toNat + j ≤ c.toNat + 1)
                (fun j => [(0, .t (.v (.string s))), (1, I ((s.size - ((d :: x2 :: r').length + 1) : Nat) : Int)), (4, .ptr 100 0), (5, I 0), (6, Bo false), (7, .ptr 103 0), (8, Bo sk.1), (9, I k), (11, U8 c.toNat), (12, I ((c.toNat + j : Nat) : Int))])
                (fun j => [(100, .box (setL 0 ++ [Bo false])), (103, .box (bitsL (addM n c.toNat j)))]) 0 (by omega) ?_ ?_
              · rw [show addM n c.toNat 0 = n from rfl]
                exact (sR_NdRef3 [] [])
              · intro j hj
                simp only [go_sem, s_ref09_class_b0, wc]
                refine W_split rfl (fun h1 => ?_) (fun h1 => ?_)
                · simp at h1
                  have q1 : ((c.toNat + j : Nat) : Int) < ((256 : Nat) : Int) := by omega
                  have q2 : c.toNat + j + 1 ≤ 256 := by omega
                  have ej : IntKind.i64.wrap (((c.toNat + j : Nat) : Int) + 1) = ((c.toNat + (j + 1) : Nat) : Int) := by rw [wrap_i64_of (by omega) (by omega)]; omega
                  have hput := bits_put (addM n c.toNat j) (c.toNat + j) (by omega)
                  simp only [go_sem, q1, q2, ej, bits_len, hput]
                  refine rd_of (j + 1) (by first | omega | (simp only; omega)) (by first | omega | (simp only; omega)) ?_
                  rw [addM_snoc]
                  exact (sR_NdRef3 [] [])
                · simp at h1
                  have ej : j = c.toNat + 1 - c.toNat := by omega
                  subst ej
                  have ea : IntKind.i64.wrap (((s.size - ((d :: x2 :: r').length + 1) : Nat) : Int) + 1) = ((s.size - (d :: x2 :: r').length : Nat) : Int) := by rw [wrap_i64_of (by omega) (by omega)]; omega
                  have ek : IntKind.i64.wrap ((k : Int) + 1) = ((k + 1 : Nat) : Int) := by rw [wrap_i64_of (by omega) (by omega)]; omega
                  simp only [go_sem, s_ref09_class_t1, ea, ek]
                  refine rd_of ((d :: x2 :: r'), k + 1, addM n c.toNat (c.toNat + 1 - c.toNat)) (by simp; try omega) ⟨hlr, by simp only; omega, addM_lt _ _ _ hn (by omega), by rw [Nat.add_sub_cancel_left]; simpa using hr⟩ ?_
                  exact (sR_NdRef3 [] [])
            · have qd := of_decide_eq_true hd
              cases hx93 : decide (x2.toNat = 93)
              · have qx := of_decide_eq_false hx93
                have hrg : rangedB (d :: x2 :: r') = true := by simp [rangedB, qd, qx]
                rw [classX_range c d x2 r' _ n q93 hrg] at hr
                have e3 : ((s.size - (r'.length + 1 + 1 + 1) + 2 : Nat) : Int) = ((s.size - (r'.length + 1) : Nat) : Int) := by omega
                cases hlt : decide (x2.toNat < c.toNat)
                · have qlt := of_decide_eq_false hlt
                  rw [if_neg qlt] at hr
                  have g3 := hlr.tail.get 0
                  simp only [List.length_cons, Nat.add_zero, List.getElem?_cons_zero] at g3
                  simp only [go_sem, s_ref09_class_b2, List.length_cons, d0, g0, g1, g3, e1, e2, hd, hx93, hlt, h93, w2, d1, dcc, wc, Bool.not_false, e3]
                  refine W_loop (fun j : Nat => x2.toNat + 1 - c.toNat - j) (fun j => c.toNat + j ≤ x2.toNat + 1)
                    (fun j => [(0, .t (.v (.string s))), (1, I ((s.size - (r'.length + 1) : Nat) : Int)), (4, .ptr 100 0), (5, I 0), (6, Bo false), (7, .ptr 103 0), (8, Bo sk.1), (9, I k), (11, U8 x2.toNat), (12, I ((c.toNat + j : Nat) : Int))])
                    (fun j => [(100, .box (setL 0 ++ [Bo false])), (103, .box (bitsL (addM n c.toNat j)))]) 0 (by omega) ?_ ?_
                  · rw [show addM n c.toNat 0 = n from rfl]
                    exact (sR_NdRef3 [] [])
                  · intro j hj
                    simp only [go_sem, s_ref09_class_b0, wx]
                    refine W_split rfl (fun h1 => ?_) (fun h1 => ?_)
                    · simp at h1
                      have q1 : ((c.toNat + j : Nat) : Int) < ((256 : Nat) : Int) := by omega
                      have q2 : c.toNat + j + 1 ≤ 256 := by omega
                      have ej : IntKind.i64.wrap (((c.toNat + j : Nat) : Int) + 1) = ((c.toNat + (j + 1) : Nat) : Int) := by rw [wrap_i64_of (by omega) (by omega)]; omega
                      have hput := bits_put (addM n c.toNat j) (c.toNat + j) (by omega)
                      simp only [go_sem, q1, q2, ej, bits_len, hput]
                      refine rd_of (j + 1) (by first | omega | (simp only; omega)) (by first | omega | (simp only; omega)) ?_
                      rw [addM_snoc]
                      exact (sR_NdRef3 [] [])
                    · simp at h1
                      have ej : j = x2.toNat + 1 - c.toNat := by omega
                      subst ej
                      have ea : IntKind.i64.wrap (((s.size - (r'.length + 1) : Nat) : Int) + 1) = ((s.size - r'.length : Nat) : Int) := by rw [wrap_i64_of (by omega) (by omega)]; omega
                      have ek : IntKind.i64.wrap ((k : Int) + 1) = ((k + 1 : Nat) : Int) := by rw [wrap_i64_of (by omega) (by omega)]; omega
                      simp only [go_sem, s_ref09_class_t1, ea, ek]
                      refine rd_of (r', k + 1, addM n c.toNat (x2.toNat + 1 - c.toNat)) (by simp; try omega) ⟨hlr.tail.tail, by simp only; omega, addM_lt _ _ _ hn (by omega), by simpa using hr⟩ ?_
                      exact (sR_NdRef3 [] [])
                · rw [if_pos (of_decide_eq_true hlt)] at hr
                  subst hr
                  simp only [go_sem, s_ref09_class_b2, List.length_cons, d0, g0, g1, g2, e1, e2, hd, hx93, hlt, h93, w2, d1, dcc, wc, Bool.not_false]
                  refine wE ?_
                  simp only [go_sem, r_ref09_class]
                  simp
              · have qx := of_decide_eq_true hx93
                have hr := one (by simp [rangedB, qx])
                simp only [go_sem, s_ref09_class_b2, List.length_cons, d0, g0, g1, g2, e1, e2, hd, hx93, h93, w2, d1, dcc, wc, Bool.not_false, Bool.not_true]
                refine W_loop (fun j : Nat => c.toNat + 1 - c.toNat - j) (fun j => c.toNat + j ≤ c.toNat + 1)
                  (fun j => [(0, .t (.v (.string s))), (1, I ((s.size - ((d :: x2 :: r').length + 1) : Nat) : Int)), (4, .ptr 100 0), (5, I 0), (6, Bo false), (7, .ptr 103 0), (8, Bo sk.1), (9, I k), (11, U8 c.toNat), (12, I ((c.toNat + j : Nat) : Int))])
                  (fun j => [(100, .box (setL 0 ++ [Bo false])), (103, .box (bitsL (addM n c.toNat j)))]) 0 (by omega) ?_ ?_
                · rw [show addM n c.toNat 0 = n from rfl]
                  exact (sR_NdRef3 [] [])
                · intro j hj
                  simp only [go_sem, s_ref09_class_b0, wc]
                  refine W_split rfl (fun h1 => ?_) (fun h1 => ?_)
                  · simp at h1
                    have q1 : ((c.toNat + j : Nat) : Int) < ((256 : Nat) : Int) := by omega
                    have q2 : c.toNat + j + 1 ≤ 256 := by omega
                    have ej : IntKind.i64.wrap (((c.toNat + j : Nat) : Int) + 1) = ((c.toNat + (j + 1) : Nat) : Int) := by rw [wrap_i64_of (by omega) (by omega)]; omega
                    have hput := bits_put (addM n c.toNat j) (c.toNat + j) (by omega)
                    simp only [go_sem, q1, q2, ej, bits_len, hput]
                    refine rd_of (j + 1) (by first | omega | (simp only; omega)) (by first | omega | (simp only; omega)) ?_
                    rw [addM_snoc]
                    exact (sR_NdRef3 [] [])
                  · simp at h1
                    have ej : j = c.toNat + 1 - c.toNat := by omega
                    subst ej
                    have ea : IntKind.i64.wrap (((s.size - ((d :: x2 :: r').length + 1) : Nat) : Int) + 1) = ((s.size - (d :: x2 :: r').length : Nat) : Int) := by rw [wrap_i64_of (by omega) (by omega)]; omega
                    have ek : IntKind.i64.wrap ((k : Int) + 1) = ((k + 1 : Nat) : Int) := by rw [wrap_i64_of (by omega) (by omega)]; omega
                    simp only [go_sem, s_ref09_class_t1, ea, ek]
                    refine rd_of ((d :: x2 :: r'), k + 1, addM n c.toNat (c.toNat + 1 - c.toNat)) (by simp; try omega) ⟨hlr, by simp only; omega, addM_lt _ _ _ hn (by omega), by rw [Nat.add_sub_cancel_left]; simpa using hr⟩ ?_
                    exact (sR_NdRef3 [] [])
        · have q93 := of_decide_eq_true h93
          rw [classX_end c r _ n q93] at hr
          subst hr
          have d2 : decide (s.size ≤ s.size - (r.length + 1)) = false := by simp; omega
          cases hk0 : decide ((k : Int) = 0)
          · have qk := of_decide_eq_false hk0
            have hkp : decide (0 < k) = true := by simp; omega
            simp only [go_sem, s_ref09_class_b2, d0, g0, h93, d2, hk0, s_ref09_class_t5, hkp]
            have hq : ∀ b : Bool, (b == sk.1) = !(b != sk.1) := by intro b; cases b <;> cases sk.1 <;> rfl
            refine W_loop (fun i : Nat => 256 - i) (fun i => i ≤ 256)
              (fun i => [(0, .t (.v (.string s))), (1, I ((s.size - (r.length + 1) : Nat) : Int)), (4, .ptr 100 0), (7, .ptr 103 0), (8, Bo sk.1), (13, .ptr 203 0), (14, I i)])
              (fun i => [(100, .box (setL 0 ++ [Bo false])), (103, .box (bitsL n)), (203, .box (setL (selM n sk.1 i) ++ [Bo false]))]) 0 (by omega) ?_ ?_
            · rw [show selM n sk.1 0 = 0 from rfl]
              exact (sR_NdRef3 [] [])
            · intro i hi
              simp only [go_sem, s_ref09_class_b3]
              refine W_split rfl (fun h1 => ?_) (fun h1 => ?_)
              · simp at h1
                have q1 : (i : Int) < ((256 : Nat) : Int) := by omega
                have q2 : i + 1 ≤ 256 := by omega
                have ei : IntKind.i64.wrap ((i : Int) + 1) = ((i + 1 : Nat) : Int) := by rw [wrap_i64_of (by omega) (by omega)]; omega
                have hget : (List.drop i (bitsL n))[0]? = some (Bo (n.testBit i)) := by rw [List.getElem?_drop, Nat.add_zero]; exact bits_get n i (by omega)
                cases hb : (n.testBit i != sk.1)
                · have hb' : (!(n.testBit i == sk.1)) = false := hb
                  simp only [go_sem, q1, q2, ei, bits_len, hget, hb']
                  refine rd_of (i + 1) (by first | omega | (simp only; omega)) (by first | omega | (simp only; omega)) ?_
                  rw [show selM n sk.1 (i + 1) = selM n sk.1 i from by simp only [selM, hb]; rfl]
                  exact (sR_NdRef3 [] [])
                · have hb' : (!(n.testBit i == sk.1)) = true := hb
                  have hsel : selM n sk.1 (i + 1) = selM n sk.1 i ||| 2 ^ i := by simp only [selM, hb]; rfl
                  generalize hm : selM n sk.1 i = m at *
                  have hmin : min (i % 64) 64 = i % 64 := Nat.min_eq_left (by omega)
                  have h4 : i / 64 = 0 ∨ i / 64 = 1 ∨ i / 64 = 2 ∨ i / 64 = 3 := by omega
                  have i4 : ∀ j : Nat, j < 4 → (j : Int) < ((4 : Nat) : Int) := by omega
                  have o1 : i / 64 ≠ 0 → (m ||| 2 ^ i) % 18446744073709551616 = m % 18446744073709551616 := fun h => by rw [word0, word0, word_or_other _ _ _ h]
                  have o2 : i / 64 ≠ 1 → (m ||| 2 ^ i) / 18446744073709551616 % 18446744073709551616 = m / 18446744073709551616 % 18446744073709551616 := fun h => by rw [word1, word1, word_or_other _ _ _ h]
                  have o3 : i / 64 ≠ 2 → (m ||| 2 ^ i) / 340282366920938463463374607431768211456 % 18446744073709551616 = m / 340282366920938463463374607431768211456 % 18446744073709551616 := fun h => by rw [word2, word2, word_or_other _ _ _ h]
                  have o4 : i / 64 ≠ 3 → (m ||| 2 ^ i) / (18446744073709551616 * 340282366920938463463374607431768211456) % 18446744073709551616 = m / (18446744073709551616 * 340282366920938463463374607431768211456) % 18446744073709551616 := fun h => by rw [word3, word3, word_or_other _ _ _ h]
                  have p0 : 2 ^ (i % 64) % 18446744073709551616 = 2 ^ (i % 64) := Nat.mod_eq_of_lt (Nat.pow_lt_pow_right (n := 64) (by decide) (by omega))
                  have p1 : i / 64 = 0 → (m ||| 2 ^ i) % 18446744073709551616 = m % 18446744073709551616 % 18446744073709551616 ||| 2 ^ (i % 64) := fun h => by rw [Nat.mod_mod, word0, word0, word_or_same _ _ _ h]
                  have p2 : i / 64 = 1 → (m ||| 2 ^ i) / 18446744073709551616 % 18446744073709551616 = m / 18446744073709551616 % 18446744073709551616 % 18446744073709551616 ||| 2 ^ (i % 64) := fun h => by rw [Nat.mod_mod, word1, word1, word_or_same _ _ _ h]
                  have p3 : i / 64 = 2 → (m ||| 2 ^ i) / 340282366920938463463374607431768211456 % 18446744073709551616 = m / 340282366920938463463374607431768211456 % 18446744073709551616 % 18446744073709551616 ||| 2 ^ (i % 64) := fun h => by rw [Nat.mod_mod, word2, word2, word_or_same _ _ _ h]
                  have p4 : i / 64 = 3 → (m ||| 2 ^ i) / (18446744073709551616 * 340282366920938463463374607431768211456) % 18446744073709551616 = m / (18446744073709551616 * 340282366920938463463374607431768211456) % 18446744073709551616 % 18446744073709551616 ||| 2 ^ (i % 64) := fun h => by rw [Nat.mod_mod, word3, word3, word_or_same _ _ _ h]
                  rcases h4 with h4 | h4 | h4 | h4
                  · have e1 := p1 h4
                    have e2 := o2 (by omega)
                    have e3 := o3 (by omega)
                    have e4 := o4 (by omega)
                    have iq : (i : Int) / 64 = ((0 : Nat) : Int) := by omega
                    have wu : IntKind.u64.wrap ((i % 64 : Nat) : Int) = ((i % 64 : Nat) : Int) := by rw [u64_wrap_nat]; omega
                    have ir : (i : Int) % 64 = ((i % 64 : Nat) : Int) := by omega
                    ((try simp only [go_sem, q1, q2, ei, bits_len, hget, hb', h4, iq, ir, wu, hmin, p0, i4 0 (by decide), setL]); repeat (simp (disch := omega) only [wrap_i64_of, i64_quo, i64_rem, sdiv, smod]; (try simp only [go_sem, q1, q2, ei, bits_len, hget, hb', h4, iq, ir, wu, hmin, p0, i4 0 (by decide), setL])))
                    refine rd_of (i + 1) (by first | omega | (simp only; omega)) (by first | omega | (simp only; omega)) ?_
                    rw [hsel]
                    simp only [setL, e1, e2, e3, e4]
                    exact (sR_NdRef3 [] [])
                  · have e1 := o1 (by omega)
                    have e2 := p2 h4
                    have e3 := o3 (by omega)
                    have e4 := o4 (by omega)
                    have iq : (i : Int) / 64 = ((1 : Nat) : Int) := by omega
                    have wu : IntKind.u64.wrap ((i % 64 : Nat) : Int) = ((i % 64 : Nat) : Int) := by rw [u64_wrap_nat]; omega
                    have ir : (i : Int) % 64 = ((i % 64 : Nat) : Int) := by omega
                    ((try simp only [go_sem, q1, q2, ei, bits_len, hget, hb', h4, iq, ir, wu, hmin, p0, i4 1 (by decide), setL]); repeat (simp (disch := omega) only [wrap_i64_of, i64_quo, i64_rem, sdiv, smod]; (try simp only [go_sem, q1, q2, ei, bits_len, hget, hb', h4, iq, ir, wu, hmin, p0, i4 1 (by decide), setL])))
                    refine rd_of (i + 1) (by first | omega | (simp only; omega)) (by first | omega | (simp only; omega)) ?_
                    rw [hsel]
                    simp only [setL, e1, e2, e3, e4]
                    exact (sR_NdRef3 [] [])
                  · have e1 := o1 (by omega)
                    have e2 := o2 (by omega)
                    have e3 := p3 h4
                    have e4 := o4 (by omega)
                    have iq : (i : Int) / 64 = ((2 : Nat) : Int) := by omega
                    have wu : IntKind.u64.wrap ((i % 64 : Nat) : Int) = ((i % 64 : Nat) : Int) := by rw [u64_wrap_nat]; omega
                    have ir : (i : Int) % 64 = ((i % 64 : Nat) : Int) := by omega
                    ((try simp only [go_sem, q1, q2, ei, bits_len, hget, hb', h4, iq, ir, wu, hmin, p0, i4 2 (by decide), setL]); repeat (simp (disch := omega) only [wrap_i64_of, i64_quo, i64_rem, sdiv, smod]; (try simp only [go_sem, q1, q2, ei, bits_len, hget, hb', h4, iq, ir, wu, hmin, p0, i4 2 (by decide), setL])))
                    refine rd_of (i + 1) (by first | omega | (simp only; omega)) (by first | omega | (simp only; omega)) ?_
                    rw [hsel]
                    simp only [setL, e1, e2, e3, e4]
                    exact (sR_NdRef3 [] [])
                  · have e1 := o1 (by omega)
                    have e2 := o2 (by omega)
                    have e3 := o3 (by omega)
                    have e4 := p4 h4
                    have iq : (i : Int) / 64 = ((3 : Nat) : Int) := by omega
                    have wu : IntKind.u64.wrap ((i % 64 : Nat) : Int) = ((i % 64 : Nat) : Int) := by rw [u64_wrap_nat]; omega
                    have ir : (i : Int) % 64 = ((i % 64 : Nat) : Int) := by omega
                    ((try simp only [go_sem, q1, q2, ei, bits_len, hget, hb', h4, iq, ir, wu, hmin, p0, i4 3 (by decide), setL]); repeat (simp (disch := omega) only [wrap_i64_of, i64_quo, i64_rem, sdiv, smod]; (try simp only [go_sem, q1, q2, ei, bits_len, hget, hb', h4, iq, ir, wu, hmin, p0, i4 3 (by decide), setL])))
                    refine rd_of (i + 1) (by first | omega | (simp only; omega)) (by first | omega | (simp only; omega)) ?_
                    rw [hsel]
                    simp only [setL, e1, e2, e3, e4]
                    exact (sR_NdRef3 [] [])
              · have e : i = 256 := by simp at h1; omega
                subst e
                have ea : IntKind.i64.wrap (((s.size - (r.length + 1) : Nat) : Int) + 1) = ((s.size - r.length : Nat) : Int) := by rw [wrap_i64_of (by omega) (by omega)]; omega
                simp only [go_sem, s_ref09_class_t4, ea]
                refine wE ?_
                simp only [go_sem, r_ref09_class, hkp, selM_all hn]
                cases sk.1 <;> simp
          · have qk := of_decide_eq_true hk0
            have hkp : decide (0 < k) = false := by simp; omega
            simp only [go_sem, s_ref09_class_b2, d0, g0, h93, d2, hk0, s_ref09_class_t5]
            refine wE ?_
            simp only [go_sem, r_ref09_class, hkp]
            simp

end Go.Proofs.YtaeleljlpcjcdaaGreatDoor
namespace Go.Proofs.YtaeleljlpcjcdaaGreatDoor
open Go Go.Sx

theorem sR_NdRef4 {io : List Nat} {env : List (Nat × AV)} {sto : List (Nat × Ob)} {env' : List (Nat × AV)} {sto' : List (Nat × Ob)} (rn : List (Nat × Nat)) (sn : List Nat)
    (h1 : envS sto sn rn env sto' env' := by simp [envS, go_sem, wkV, wkL, AV.ids, idsL, keysOf, ren, stoOf, slTrees, AV.asOwn, rowPart, AV.isNil, shA, rowsT, cellsT, cellT, wkLL, setL, pst] <;> assumption)
    (h2 : stoS sto sn rn sto' sto' := by simp [stoS, go_sem, wkV, wkL, wkO, AV.ids, Ob.ids, idsL, keysOf, ren, AV.one, stoOf, slTrees, AV.asOwn, rowPart, AV.isNil, shA, rowsT, cellsT, cellT, wkLL, setL, pst] <;> assumption)
    (h3 : ((keysOf sto').map (ren rn)).Nodup := by simp [keysOf, ren]) (h4 : ∀ i ∈ sn, 100 ≤ i ∧ isRow (stoOf sto i) = true ∧ ∀ j ∈ keysOf sto', ren rn j ≠ i := by simp [stoOf, keysOf, ren])
    (h5 : ∀ i ∈ io, ren rn i = i := by simp [keysOf, ren]) (h6 : ∀ i ∈ keysOf sto', ren rn i ∈ io → i = ren rn i := by simp [keysOf, ren]) :
    Sub io ⟨envOf env, stoOf sto⟩ ⟨envOf env', stoOf sto'⟩ := subL rn sn h1 h2 h3 h4 h5 h6

theorem dec_f {a b : Nat} (h : ¬ a = b) : decide (a = b) = false := by simpa using h

theorem dec_t {a b : Nat} (h : a = b) : decide (a = b) = true := by simpa using h

theorem full_words : ∃ n : Nat, n = full ∧ n % 18446744073709551616 = 18446744073709551615 ∧ n / 18446744073709551616 % 18446744073709551616 = 18446744073709551615 ∧ n / 340282366920938463463374607431768211456 % 18446744073709551616 = 18446744073709551615 ∧ n / (18446744073709551616 * 340282366920938463463374607431768211456) % 18446744073709551616 = 18446744073709551615 :=
  ⟨full, rfl, by decide, by decide, by decide, by decide⟩

set_option maxRecDepth 20000 in
set_option maxHeartbeats 8000000 in
theorem f_ref09_Compile (s : ByteArray) (hs : s.size < 4611686018427387904) : Meets Tryz.prog E0 n_ref09_Compile [.t (.v (.string s))] [] (.tp [needleV (compM s.data.toList).1.1 (compM s.data.toList).1.2.1 (compM s.data.toList).1.2.2, I (compM s.data.toList).2]) [] := by
  refine st0 m_ref09_Compile ?_
  simp only [go_sem, s_ref09_Compile]
  refine W_split rfl (fun h1 => ?_) (fun h1 => ?_)
  · simp at h1
    have hc : compM s.data.toList = ((false, false, []), 12) := by unfold compM; rw [if_pos (by rw [ba_len]; omega)]
    rw [hc]
    simp only [go_sem]
    refine wS [] ?_
    simp only [go_sem, r_ref09_Compile, exists_eq_left', Option.some.injEq]
    simp [wkV, wkL, slTrees, AV.asOwn, rowPart, stoOf, AV.isNil, shA, rowsT, cellsT, cellT]
  · simp at h1
    have hall := Suf.all s
    have hc : compM s.data.toList = (match itemsM (s.size + 1) (skipM 94 s.data.toList).2 [] with
      | none => ((false, false, []), 10)
      | some (e, is) => (((skipM 94 s.data.toList).1, e, is), 0)) := by unfold compM; rw [ba_len, if_neg (by omega)] <;> rfl
    have hsuf : Suf s (skipM 94 s.data.toList).2 := (skip_suf 94 _).trans hall
    rw [hc]
    have hcs : (s.data.toList = [] ∧ skipM 94 s.data.toList = (false, [])) ∨ (∃ c r, s.data.toList = c :: r ∧ decide (c.toNat = 94) = false ∧ skipM 94 s.data.toList = (false, c :: r)) ∨ (∃ c r, s.data.toList = c :: r ∧ decide (c.toNat = 94) = true ∧ skipM 94 s.data.toList = (true, r)) := by
      cases s.data.toList with
      | nil => exact Or.inl ⟨rfl, rfl⟩
      | cons c r =>
        right
        by_cases e : c.toNat = 94
        · exact Or.inr ⟨c, r, rfl, by simp [e], by simp [skipM, e]⟩
        · exact Or.inl ⟨c, r, rfl, by simp [e], by simp [skipM, e]⟩
    have hlen0 := ba_len s
    have hg0 := ba_get s 0
    generalize hsk : skipM 94 s.data.toList = sk at *
    generalize hout : itemsM (s.size + 1) sk.2 [] = out
    rcases hcs with ⟨hl0, hk⟩ | ⟨c, r, hl0, hc94, hk⟩ | ⟨c, r, hl0, hc94, hk⟩
    case' inl =>
      rw [hl0] at hlen0
      simp only [List.length_nil] at hlen0
      have d0 : decide ((0 : Int) < (s.size : Int)) = false := decide_eq_false (by omega)
      have hst : (0 : Int) = ((s.size : Nat) : Int) := by omega
      simp only [go_sem, d0]
    case' inr.inl =>
      rw [hl0] at hlen0 hg0
      simp only [List.length_cons] at hlen0
      simp only [List.getElem?_cons_zero] at hg0
      have d0 : decide ((0 : Int) < (s.size : Int)) = true := decide_eq_true (by omega)
      have hst : (0 : Int) = ((s.size - (r.length + 1) : Nat) : Int) := by omega
      simp only [go_sem, d0, hg0, hc94]
    case' inr.inr =>
      rw [hl0] at hlen0 hg0
      simp only [List.length_cons] at hlen0
      simp only [List.getElem?_cons_zero] at hg0
      have d0 : decide ((0 : Int) < (s.size : Int)) = true := decide_eq_true (by omega)
      have hst : (1 : Int) = ((s.size - r.length : Nat) : Int) := by omega
      simp only [go_sem, d0, hg0, hc94]
    all_goals
      have h5 : ((s.size - sk.2.length : Nat) : Int) = ((s.size - sk.2.length : Nat) : Int) := rfl
      refine W_loop (fun i : List UInt8 × List Item => i.1.length) (fun i => Suf s i.1 ∧ i.2.length + i.1.length ≤ 64 ∧ ∃ f, i.1.length < f ∧ itemsM f i.1 i.2 = out)
        (fun i => [(0, .t (.v (.string s))), (2, .ptr 100 0), (4, .ptr 102 0), (5, I ((s.size - i.1.length : Nat) : Int))])
        (fun i => [(100, .box [Bo false, Bo false, .t (.v (.slice none 0 0))]), (102, .box [Bo sk.1, Bo false, .own 999 5 0 i.2.length (!i.2.isEmpty)]), (999, .row 5 (!i.2.isEmpty) (i.2.map itemT))])
        (sk.2, []) ⟨hsuf, by have := hsuf.len; simp; omega, s.size + 1, by have := hsuf.len; simp; omega, hout⟩ ?_ ?_
      · subst hk
        dsimp only at *
        exact (sR_NdRef4 [(999, 888)] [])
      · clear hk hl0 hlen0 hg0 hst
        rintro ⟨l, acc⟩ ⟨hl, hk, f, hf, hr⟩
        simp only at hl hk hf hr
        have hlen := hl.len
        obtain ⟨f, rfl⟩ : ∃ g, f = g + 1 := ⟨f - 1, by omega⟩
        cases l with
        | nil =>
          simp only [itemsM] at hr
          subst hr
          have d0 : decide (s.size < s.size) = false := by simp
          simp only [go_sem, s_ref09_Compile_b0, d0, List.length_nil, Nat.sub_zero, s_ref09_Compile_t1]
          cases hacc : acc with
          | nil =>
            refine wS [] ?_
            simp only [go_sem, r_ref09_Compile, exists_eq_left', Option.some.injEq]
            simp [wkV, wkL, slTrees, AV.asOwn, rowPart, stoOf, AV.isNil, shA, rowsT, cellsT, cellT]
          | cons a acc =>
            refine wS [999] ?_
            simp only [go_sem, r_ref09_Compile, exists_eq_left', Option.some.injEq]
            simp [wkV, wkL, slTrees, AV.asOwn, rowPart, stoOf, AV.isNil, shA, rowsT, cellsT, cellT, List.take_of_length_le]
        | cons c r =>
          have g0 := hl.get 0
          simp only [List.length_cons, Nat.add_zero, List.getElem?_cons_zero] at hlen hk hf g0
          have hcb := u8_lt c
          have d0 : decide (s.size - (r.length + 1) < s.size) = true := by simp; omega
          have w1 : IntKind.i64.wrap ((s.size : Int) - 1) = ((s.size - 1 : Nat) : Int) := by rw [wrap_i64_of (by omega) (by omega)]; omega
          by_cases hd : r = [] ∧ c.toNat = 36
          · obtain ⟨rfl, hc36⟩ := hd
            simp only [itemsM, hc36, and_self, if_true] at hr
            subst hr
            simp only [List.length_nil, Nat.zero_add] at d0 g0 hlen
            have k36 := dec_t hc36
            simp only [go_sem, s_ref09_Compile_b0, d0, List.length_cons, List.length_nil, Nat.zero_add, g0, k36, w1, decide_true]
            cases hacc : acc with
            | nil =>
              refine wS [] ?_
              simp only [go_sem, r_ref09_Compile, exists_eq_left', Option.some.injEq]
              simp [wkV, wkL, slTrees, AV.asOwn, rowPart, stoOf, AV.isNil, shA, rowsT, cellsT, cellT]
            | cons a acc =>
              refine wS [999] ?_
              simp only [go_sem, r_ref09_Compile, exists_eq_left', Option.some.injEq]
              simp [wkV, wkL, slTrees, AV.asOwn, rowPart, stoOf, AV.isNil, shA, rowsT, cellsT, cellT, List.take_of_length_le]
          · simp only [itemsM, if_neg hd] at hr
            by_cases hc36 : c.toNat = 36
            · have hr0 : r ≠ [] := fun e => hd ⟨e, hc36⟩
              have hrl : r.length ≠ 0 := fun e => hr0 (List.eq_nil_of_length_eq_zero e)
              have dm : decide (s.size - (r.length + 1) = s.size - 1) = false := by simp; omega
              have k36 := dec_t hc36
              simp only [atomM, hc36, true_or, or_true, if_true, Bool.false_eq_true, if_false] at hr
              subst hr
              simp only [go_sem, s_ref09_Compile_b0, d0, List.length_cons, g0, k36, w1, dm]
              refine wS [] ?_
              simp only [go_sem, r_ref09_Compile, exists_eq_left', Option.some.injEq]
              simp [wkV, wkL, slTrees, AV.asOwn, rowPart, stoOf, AV.isNil, shA, rowsT, cellsT, cellT]
            have k36 := dec_f hc36
            by_cases hc94 : c.toNat = 94
            · have k94 := dec_t hc94
              simp only [atomM, hc94, true_or, or_true, if_true, Bool.false_eq_true, if_false] at hr
              subst hr
              simp only [go_sem, s_ref09_Compile_b0, d0, List.length_cons, g0, k36, k94]
              refine wS [] ?_
              simp only [go_sem, r_ref09_Compile, exists_eq_left', Option.some.injEq]
              simp [wkV, wkL, slTrees, AV.asOwn, rowPart, stoOf, AV.isNil, shA, rowsT, cellsT, cellT]
            have k94 := dec_f hc94
            by_cases hc42 : c.toNat = 42
            · have k42 := dec_t hc42
              simp only [atomM, hc42, true_or, or_true, if_true, Bool.false_eq_true, if_false] at hr
              subst hr
              simp only [go_sem, s_ref09_Compile_b0, d0, List.length_cons, g0, k36, k94, k42]
              refine wS [] ?_
              simp only [go_sem, r_ref09_Compile, exists_eq_left', Option.some.injEq]
              simp [wkV, wkL, slTrees, AV.asOwn, rowPart, stoOf, AV.isNil, shA, rowsT, cellsT, cellT]
            have k42 := dec_f hc42
            by_cases hc93 : c.toNat = 93
            · have k93 := dec_t hc93
              simp only [atomM, hc93, true_or, or_true, if_true, Bool.false_eq_true, if_false] at hr
              subst hr
              simp only [go_sem, s_ref09_Compile_b0, d0, List.length_cons, g0, k36, k94, k42, k93]
              refine wS [] ?_
              simp only [go_sem, r_ref09_Compile, exists_eq_left', Option.some.injEq]
              simp [wkV, wkL, slTrees, AV.asOwn, rowPart, stoOf, AV.isNil, shA, rowsT, cellsT, cellT]
            have k93 := dec_f hc93
            have hb : ¬ (c.toNat = 94 ∨ c.toNat = 36 ∨ c.toNat = 42 ∨ c.toNat = 93) := by omega
            have ea : IntKind.i64.wrap (((s.size - (r.length + 1) : Nat) : Int) + 1) = ((s.size - r.length : Nat) : Int) := by rw [wrap_i64_of (by omega) (by omega)]; omega
            have hacs : (atomM (c :: r) = (full, true, r) ∧ c.toNat = 46) ∨ (∃ d r1, r = d :: r1 ∧ atomM (c :: r) = (2 ^ d.toNat, true, r1) ∧ c.toNat = 92) ∨ (r = [] ∧ (atomM (c :: r)).2.1 = false ∧ c.toNat = 92) ∨ (c.toNat = 91 ∧ atomM (c :: r) = classM r) ∨ (atomM (c :: r) = (2 ^ c.toNat, true, r) ∧ c.toNat ≠ 46 ∧ c.toNat ≠ 92 ∧ c.toNat ≠ 91) := by
              by_cases h46 : c.toNat = 46
              · exact Or.inl ⟨by simp [atomM, h46], h46⟩
              · by_cases h91 : c.toNat = 91
                · exact Or.inr (Or.inr (Or.inr (Or.inl ⟨h91, by simp [atomM, h91]⟩)))
                · by_cases h92 : c.toNat = 92
                  · cases r with
                    | nil => exact Or.inr (Or.inr (Or.inl ⟨rfl, by simp [atomM, h92], h92⟩))
                    | cons d r1 => exact Or.inr (Or.inl ⟨d, r1, rfl, by simp [atomM, h92], h92⟩)
                  · exact Or.inr (Or.inr (Or.inr (Or.inr ⟨by simp only [atomM, if_neg hb, if_neg h46, if_neg h91, if_neg h92], h46, h92, h91⟩)))
            rcases hacs with ⟨hat, h46⟩ | ⟨d, r1, hrd, hat, h92⟩ | ⟨hrd, hat, h92⟩ | ⟨h91, hat⟩ | ⟨hat, h46, h92, h91⟩
            case' inr.inr.inl =>
              subst hrd
              rw [hat] at hr
              simp only [Bool.false_eq_true, if_false] at hr
              subst hr
              simp only [List.length_nil, Nat.zero_add] at d0 g0 hlen
              have k46 : decide (c.toNat = 46) = false := dec_f (by omega)
              have k92 : decide (c.toNat = 92) = true := dec_t h92
              simp only [go_sem, s_ref09_Compile_b0, d0, List.length_cons, List.length_nil, Nat.zero_add, g0, k36, k94, k42, k93, k46, k92, w1, decide_true]
              refine wS [] ?_
              simp only [go_sem, r_ref09_Compile, exists_eq_left', Option.some.injEq]
              simp [wkV, wkL, slTrees, AV.asOwn, rowPart, stoOf, AV.isNil, shA, rowsT, cellsT, cellT]
            case' inl =>
              have k46 : decide (c.toNat = 46) = true := dec_t h46
              have hs1 : Suf s r := hl.tail
              have hle : r.length ≤ r.length := Nat.le_refl _
              rw [hat] at hr
              simp only [if_true] at hr
              simp only [go_sem, s_ref09_Compile_b0, d0, List.length_cons, g0, k36, k94, k42, k93, k46, ea]
              obtain ⟨n, hn, hw1, hw2, hw3, hw4⟩ := full_words
              have e2 : ∀ st, acc.map itemT ++ [[.v (.int .u64 ((18446744073709551615 : Nat) : Int)), .v (.int .u64 ((18446744073709551615 : Nat) : Int)), .v (.int .u64 ((18446744073709551615 : Nat) : Int)), .v (.int .u64 ((18446744073709551615 : Nat) : Int)), .v (.bool st)]] = (acc ++ [(n, st)]).map itemT := by
                intro st
                simp only [List.map_append, List.map_cons, List.map_nil, itemT, hw1, hw2, hw3, hw4]
              rw [← hn] at hr
              clear hat ea hb hn
              obtain ⟨r1, rfl⟩ : ∃ r1, r1 = r := ⟨r, rfl⟩
              have hk1 : acc.length + r1.length + 1 ≤ 64 := by omega
              have hf1 : r1.length < f := by omega
              have hm1 : r1.length ≤ r1.length := Nat.le_refl _
            case' inr.inl =>
              subst hrd
              have k46 : decide (c.toNat = 46) = false := dec_f (by omega)
              have k92 : decide (c.toNat = 92) = true := dec_t h92
              have hs1 : Suf s r1 := hl.tail.tail
              have g1 := hl.get 1
              have hcb2 := u8_lt d
              simp only [List.length_cons, List.getElem?_cons_succ, List.getElem?_cons_zero] at g0 g1 d0 hlen hk hf ea
              have dm : decide (s.size - (r1.length + 1 + 1) = s.size - 1) = false := by simp; omega
              have ei : IntKind.i64.wrap (((s.size - (r1.length + 1 + 1) : Nat) : Int) + 1) = ((s.size - (r1.length + 1 + 1) + 1 : Nat) : Int) := by rw [wrap_i64_of (by omega) (by omega)]; omega
              have ej : IntKind.i64.wrap (((s.size - (r1.length + 1 + 1) : Nat) : Int) + 2) = ((s.size - r1.length : Nat) : Int) := by rw [wrap_i64_of (by omega) (by omega)]; omega
              rw [hat] at hr
              simp only [if_true] at hr
              simp only [go_sem, s_ref09_Compile_b0, d0, List.length_cons, g0, g1, k36, k94, k42, k93, k46, k92, w1, dm, ei, ej]
              refine Cl_plain (f_ref09_one d.toNat hcb2) ?_
              simp only [go_sem, ej]
              clear hat
              generalize 2 ^ d.toNat = n at *
              have hk1 : acc.length + r1.length + 1 ≤ 64 := by omega
              have hf1 : r1.length < f := by omega
              have hm1 : r1.length ≤ (d :: r1).length := by simp
              have e2 : ∀ st, acc.map itemT ++ [[.v (.int .u64 ((n % 18446744073709551616 : Nat) : Int)), .v (.int .u64 ((n / 18446744073709551616 % 18446744073709551616 : Nat) : Int)), .v (.int .u64 ((n / 340282366920938463463374607431768211456 % 18446744073709551616 : Nat) : Int)), .v (.int .u64 ((n / (18446744073709551616 * 340282366920938463463374607431768211456) % 18446744073709551616 : Nat) : Int)), .v (.bool st)]] = (acc ++ [(n, st)]).map itemT := by intro st; simp [itemT]
            case' inr.inr.inr.inl =>
              have k46 : decide (c.toNat = 46) = false := dec_f (by omega)
              have k92 : decide (c.toNat = 92) = false := dec_f (by omega)
              have k91 : decide (c.toNat = 91) = true := dec_t h91
              simp only [go_sem, s_ref09_Compile_b0, d0, List.length_cons, g0, k36, k94, k42, k93, k46, k92, k91, ea]
              refine Cl_plain (f_ref09_class s r hl.tail hs) ?_
              have hsu := atomM_suf c r
              rw [hat] at hr hsu
              generalize classM r = y at *
              obtain ⟨n, ok, r1⟩ := y
              simp only at hsu
              have hs1 : Suf s r1 := hsu.trans hl.tail
              have hle := hsu.length_le
              cases ok
              · simp only [Bool.false_eq_true, if_false] at hr
                subst hr
                simp only [go_sem]
                refine wS [] ?_
                simp only [go_sem, r_ref09_Compile, exists_eq_left', Option.some.injEq]
                simp [wkV, wkL, slTrees, AV.asOwn, rowPart, stoOf, AV.isNil, shA, rowsT, cellsT, cellT]
              simp only [if_true] at hr
              simp only [go_sem]
              have e2 : ∀ st, acc.map itemT ++ [[.v (.int .u64 ((n % 18446744073709551616 : Nat) : Int)), .v (.int .u64 ((n / 18446744073709551616 % 18446744073709551616 : Nat) : Int)), .v (.int .u64 ((n / 340282366920938463463374607431768211456 % 18446744073709551616 : Nat) : Int)), .v (.int .u64 ((n / (18446744073709551616 * 340282366920938463463374607431768211456) % 18446744073709551616 : Nat) : Int)), .v (.bool st)]] = (acc ++ [(n, st)]).map itemT := by intro st; simp [itemT]
              have hk1 : acc.length + r1.length + 1 ≤ 64 := by omega
              have hf1 : r1.length < f := by omega
              have hm1 : r1.length ≤ r.length := hle
            case' inr.inr.inr.inr =>
              have k46 : decide (c.toNat = 46) = false := dec_f h46
              have k92 : decide (c.toNat = 92) = false := dec_f h92
              have k91 : decide (c.toNat = 91) = false := dec_f h91
              have hs1 : Suf s r := hl.tail
              have hle : r.length ≤ r.length := Nat.le_refl _
              rw [hat] at hr
              simp only [if_true] at hr
              simp only [go_sem, s_ref09_Compile_b0, d0, List.length_cons, g0, k36, k94, k42, k93, k46, k92, k91]
              refine Cl_plain (f_ref09_one c.toNat hcb) ?_
              simp only [go_sem, ea]
              clear hat
              generalize 2 ^ c.toNat = n at *
              have e2 : ∀ st, acc.map itemT ++ [[.v (.int .u64 ((n % 18446744073709551616 : Nat) : Int)), .v (.int .u64 ((n / 18446744073709551616 % 18446744073709551616 : Nat) : Int)), .v (.int .u64 ((n / 340282366920938463463374607431768211456 % 18446744073709551616 : Nat) : Int)), .v (.int .u64 ((n / (18446744073709551616 * 340282366920938463463374607431768211456) % 18446744073709551616 : Nat) : Int)), .v (.bool st)]] = (acc ++ [(n, st)]).map itemT := by intro st; simp [itemT]
              obtain ⟨r1, rfl⟩ : ∃ r1, r1 = r := ⟨r, rfl⟩
              have hk1 : acc.length + r1.length + 1 ≤ 64 := by omega
              have hf1 : r1.length < f := by omega
              have hm1 : r1.length ≤ r1.length := Nat.le_refl _
            all_goals
              have b1 : (acc.length + 1) * 40 ≤ 2 ^ 47 := by omega
              have b2 : acc.length + 1 < 2 ^ 47 := by omega
              have hl1 := hs1.len
              cases r1 with
              | nil =>
                have s0 : decide (s.size < s.size) = false := by simp
                simp only [go_sem, List.length_nil, Nat.sub_zero, s0, b1, b2, e2]
                refine rd_of ([], acc ++ [(n, false)]) (by simp) ⟨hs1, by simp only [List.length_append, List.length_cons, List.length_nil] at *; omega, f, by simp only [List.length_nil] at *; omega, hr⟩ ?_
                exact (sR_NdRef4 [(999, 230)] [])
              | cons x r2 =>
                have gx := hs1.get 0
                simp only [List.length_cons, Nat.add_zero, List.getElem?_cons_zero] at gx hl1 hk1 hf1 hm1
                have s0 : decide (s.size - (r2.length + 1) < s.size) = true := decide_eq_true (by omega)
                cases hx : decide (x.toNat = 42)
                · have qx := of_decide_eq_false hx
                  have hk42 : skipM 42 (x :: r2) = (false, x :: r2) := by simp only [skipM, if_neg qx]
                  rw [hk42] at hr
                  simp only [go_sem, List.length_cons, s0, gx, hx, b1, b2, e2]
                  refine rd_of (x :: r2, acc ++ [(n, false)]) (by simp only [List.length_cons] at *; omega) ⟨hs1, by simp only [List.length_append, List.length_cons, List.length_nil]; omega, f, by simp only [List.length_cons]; omega, hr⟩ ?_
                  exact (sR_NdRef4 [(999, 230)] [])
                · have qx := of_decide_eq_true hx
                  have hk42 : skipM 42 (x :: r2) = (true, r2) := by simp only [skipM, if_pos qx]
                  have ez : IntKind.i64.wrap (((s.size - (r2.length + 1) : Nat) : Int) + 1) = ((s.size - r2.length : Nat) : Int) := by rw [wrap_i64_of (by omega) (by omega)]; omega
                  rw [hk42] at hr
                  simp only [go_sem, List.length_cons, s0, gx, hx, ez, b1, b2, e2]
                  refine rd_of (r2, acc ++ [(n, true)]) (by simp only [List.length_cons] at *; omega) ⟨hs1.tail, by simp only [List.length_append, List.length_cons, List.length_nil]; omega, f, by simp only; omega, hr⟩ ?_
                  exact (sR_NdRef4 [(999, 230)] [])

theorem f_ref09_Match (p tx : ByteArray) (hp : p.size < 4611686018427387904) (ht : tx.size < 70368744177664) : Meets Tryz.prog E0 n_ref09_Match [.t (.v (.string p)), .t (.v (.string tx))] [] (.tp [Bo (if (compM p.data.toList).2 = 0 then foundM (compM p.data.toList).1.1 (compM p.data.toList).1.2.1 (compM p.data.toList).1.2.2 tx.data.toList else false), I (compM p.data.toList).2]) [] := by
  refine st0 m_ref09_Match ?_
  simp only [go_sem, s_ref09_Match]
  refine Cl_plain (f_ref09_Compile p hp) ?_
  have hlen := compM_len p.data.toList
  generalize compM p.data.toList = x at *
  obtain ⟨⟨a, z, is⟩, e⟩ := x
  simp only at hlen
  simp only [go_sem]
  refine W_split rfl (fun h => ?_) (fun h => ?_)
  · simp at h
    simp only [go_sem]
    refine wE ?_
    simp only [go_sem, r_ref09_Match]
    simp [h]
  · simp at h
    simp only [go_sem]
    refine Cl_plain (f_ref09_Found a z is (by omega) tx ht) ?_
    simp only [go_sem]
    refine wE ?_
    simp only [go_sem, r_ref09_Match]
    simp [h, found_ref]

end Go.Proofs.YtaeleljlpcjcdaaGreatDoor
namespace Go.Proofs.YtaeleljlpcjcdaaGreatDoor
open Go Go.Sx

def plainB (c : UInt8) : Bool := (decide (97 ≤ c.toNat) && decide (c.toNat ≤ 122)) || (decide (65 ≤ c.toNat) && decide (c.toNat ≤ 90)) || (decide (48 ≤ c.toNat) && decide (c.toNat ≤ 57)) || decide (c.toNat = 95) || decide (c.toNat = 45)

theorem plain_ne {c : UInt8} (h : plainB c = true) : c.toNat ≠ 94 ∧ c.toNat ≠ 36 ∧ c.toNat ≠ 42 ∧ c.toNat ≠ 93 ∧ c.toNat ≠ 46 ∧ c.toNat ≠ 91 ∧ c.toNat ≠ 92 := by
  simp only [plainB, Bool.or_eq_true, Bool.and_eq_true, decide_eq_true_eq] at h
  omega

def lit (c : UInt8) : Item := (2 ^ c.toNat, false)

theorem atom_plain {c : UInt8} (h : plainB c = true) (r : List UInt8) : atomM (c :: r) = (2 ^ c.toNat, true, r) := by
  obtain ⟨h1, h2, h3, h4, h5, h6, h7⟩ := plain_ne h
  simp [atomM, h1, h2, h3, h4, h5, h6, h7]

theorem skip_plain {c : UInt8} {b : Nat} (h : c.toNat ≠ b) (r : List UInt8) : skipM b (c :: r) = (false, c :: r) := by simp [skipM, h]

theorem items_plain : ∀ (l : List UInt8) (f : Nat) (acc : List Item), (∀ c ∈ l, plainB c = true) → l.length < f → itemsM f l acc = some (false, acc ++ l.map lit)
  | [], f + 1, acc, _, _ => by simp [itemsM]
  | c :: r, f + 1, acc, h, hf => by
    have hc := h c (by simp)
    have hn := plain_ne hc
    have hs : skipM 42 r = (false, r) := by
      cases r with
      | nil => rfl
      | cons d r' => exact skip_plain (plain_ne (h d (by simp))).2.2.1 r'
    rw [itemsM, atom_plain hc, if_neg (by simp [hn.2.1]), if_pos rfl]
    simp only [hs]
    rw [items_plain r f _ (fun d hd => h d (by simp [hd])) (by simp at hf; omega)]
    simp [lit]

theorem items_plain_end : ∀ (l : List UInt8) (f : Nat) (acc : List Item), (∀ c ∈ l, plainB c = true) → l.length + 1 < f → itemsM f (l ++ [36]) acc = some (true, acc ++ l.map lit)
  | [], f + 1, acc, _, _ => by simp [itemsM]
  | c :: r, f + 1, acc, h, hf => by
    have hc := h c (by simp)
    have hn := plain_ne hc
    have hs : skipM 42 (r ++ [36]) = (false, r ++ [36]) := by
      cases r with
      | nil => rfl
      | cons d r' => exact skip_plain (plain_ne (h d (by simp))).2.2.1 (r' ++ [36])
    rw [List.cons_append, itemsM, atom_plain hc, if_neg (by simp), if_pos rfl]
    simp only [hs]
    rw [items_plain_end r f _ (fun d hd => h d (by simp [hd])) (by simp at hf; omega)]
    simp [lit]

theorem comp_plain (l : List UInt8) (h : ∀ c ∈ l, plainB c = true) (hl : l.length ≤ 62) : compM l = ((false, false, l.map lit), 0) := by
  have hs : skipM 94 l = (false, l) := by
    cases l with
    | nil => rfl
    | cons d r => exact skip_plain (plain_ne (h d (by simp))).1 r
  rw [compM, if_neg (by omega), hs, items_plain l _ [] h (by omega)]
  simp

theorem comp_plain_end (l : List UInt8) (h : ∀ c ∈ l, plainB c = true) (hl : l.length ≤ 62) : compM (94 :: (l ++ [36])) = ((true, true, l.map lit), 0) := by
  have hs : skipM 94 (94 :: (l ++ [36])) = (true, l ++ [36]) := rfl
  rw [compM, if_neg (by simp; omega), hs, items_plain_end l _ [] h (by simp)]
  simp

theorem fit_lit (tx : List UInt8) (c : UInt8) (k : Nat) : fitTx tx (2 ^ c.toNat) k = true ↔ tx[k]? = some c := by
  unfold fitTx
  cases h : tx[k]? with
  | none => simp
  | some d =>
    simp only [Option.map_some, Option.getD_some, Nat.testBit_two_pow, decide_eq_true_eq, Option.some.injEq]
    exact ⟨fun h => (UInt8.toNat_inj.1 h).symm, fun h => by rw [h]⟩

theorem next_lit (fit E : Nat → Bool) (k : Nat) : nextE false fit E k = true ↔ ∃ j, k = j + 1 ∧ E j = true ∧ fit j = true := by
  cases k with
  | zero => simp [nextE]
  | succ k => simp [nextE]

theorem pre_cons {c : UInt8} {r tx : List UInt8} {j : Nat} : (c :: r) <+: tx.drop j ↔ tx[j]? = some c ∧ r <+: tx.drop (j + 1) := by
  constructor
  · rintro ⟨t, h⟩
    have h0 : tx[j]? = some c := by
      have := congrArg (fun l => l[0]?) h
      simpa using this.symm
    refine ⟨h0, t, ?_⟩
    rw [drop_get h0] at h
    simpa using h
  · rintro ⟨h0, t, h⟩
    rw [drop_get h0]
    exact ⟨t, by simp [h]⟩

theorem ends_lit (a : Bool) (tx : List UInt8) : ∀ (l : List UInt8) (E : Nat → Bool) (k : Nat), endsE a tx (l.map lit) E k = true ↔ ∃ j, k = j + l.length ∧ E j = true ∧ l <+: tx.drop j
  | [], E, k => by simp [endsE]
  | c :: r, E, k => by
    rw [List.map_cons, endsE, ends_lit a tx r]
    simp only [lit, next_lit, fit_lit, pre_cons]
    constructor
    · rintro ⟨i, rfl, ⟨j, rfl, h1, h2⟩, h3⟩
      exact ⟨j, by simp; omega, h1, h2, h3⟩
    · rintro ⟨j, rfl, h1, h2, h3⟩
      exact ⟨j + 1, by simp; omega, ⟨j, rfl, h1, h2⟩, h3⟩

theorem found_lit (l tx : List UInt8) : foundM false false (l.map lit) tx = true ↔ ∃ j, j + l.length ≤ tx.length ∧ l <+: tx.drop j := by
  rw [found_iff]
  simp only [Bool.false_eq_true, if_false, endI_all, ends_lit, firstE, Bool.not_false, Bool.true_or, true_and]
  constructor
  · rintro ⟨k, hk, j, rfl, h⟩
    exact ⟨j, hk, h⟩
  · rintro ⟨j, hj, h⟩
    exact ⟨_, hj, j, rfl, h⟩

theorem found_lit_all (l tx : List UInt8) : foundM true true (l.map lit) tx = true ↔ tx = l := by
  rw [found_iff]
  simp only [if_true, endI_all, ends_lit, firstE, Bool.not_true, Bool.false_or, beq_iff_eq]
  constructor
  · rintro ⟨j, hj, rfl, h⟩
    rw [List.drop_zero] at h
    exact (h.eq_of_length (by omega)).symm
  · rintro rfl
    exact ⟨0, by simp, rfl, by simp⟩

theorem bl_loop (b : ByteArray) : ∀ (n i : Nat) (r : List UInt8), b.size = i + n → ByteArray.toList.loop b i r = r.reverse ++ b.data.toList.drop i
  | 0, i, r, h => by
    rw [ByteArray.toList.loop, if_neg (by omega), List.drop_eq_nil_of_le (by have := ba_len b; omega)]
    simp
  | n + 1, i, r, h => by
    have hi : i < b.data.toList.length := by have := ba_len b; omega
    obtain ⟨c, hc⟩ := get_of_lt hi
    have hg : b.get! i = c := by
      have := ba_get b i
      rw [hc] at this
      rw [ByteArray.get!]
      simp at hc
      obtain ⟨_, hc⟩ := Array.getElem?_eq_some_iff.1 hc
      rw [getElem!_pos _ _ (by assumption)]
      exact hc
    rw [ByteArray.toList.loop, if_pos (by omega), bl_loop b n (i + 1) _ (by omega), hg, drop_get hc]
    simp

theorem bl_list (b : ByteArray) : b.toList = b.data.toList := by
  rw [ByteArray.toList, bl_loop b b.size 0 [] (by omega)]
  simp

theorem str_eql (x y : ByteArray) : binStr .eql x y = some (.bool (decide (x.data.toList = y.data.toList))) := by
  simp only [binStr, bl_list]
  congr 2
  rw [Bool.eq_iff_iff]
  simp

theorem ext_list (s : ByteArray) (i n : Nat) : (s.extract i (i + n)).data.toList = (s.data.toList.drop i).take n := by
  rw [ByteArray.data_extract, Array.toList_extract, List.extract_eq_take_drop]
  congr 1
  omega

theorem hat_list (p : ByteArray) : (bs [94] ++ p ++ bs [36]).data.toList = 94 :: (p.data.toList ++ [36]) := by
  simp [bs]

end Go.Proofs.YtaeleljlpcjcdaaGreatDoor
namespace Go.Proofs.YtaeleljlpcjcdaaGreatDoor
open Go Go.Sx

theorem f_needle_Compile_any (s : ByteArray) : Meets Tryz.prog E0 n_needle_Compile [.t (.v (.string s))] [] (.tp [needleV (compM s.data.toList).1.1 (compM s.data.toList).1.2.1 (compM s.data.toList).1.2.2, I (compM s.data.toList).2]) [] := by
  by_cases h : s.size ≤ 64
  · exact f_needle_Compile s (by omega)
  · refine st0 m_needle_Compile ?_
    have hc : compM s.data.toList = ((false, false, []), 12) := by unfold compM; rw [if_pos (by rw [ba_len]; omega)]
    have d0 : decide ((64 : Int) < (s.size : Int)) = true := decide_eq_true (by omega)
    rw [hc]
    simp only [go_sem, s_needle_Compile, d0]
    refine wS [] ?_
    simp only [go_sem, r_needle_Compile, exists_eq_left', Option.some.injEq]
    simp [wkV, wkL, slTrees, AV.asOwn, rowPart, stoOf, AV.isNil, shA, rowsT, cellsT, cellT]

theorem f_ref09_Compile_any (s : ByteArray) : Meets Tryz.prog E0 n_ref09_Compile [.t (.v (.string s))] [] (.tp [needleV (compM s.data.toList).1.1 (compM s.data.toList).1.2.1 (compM s.data.toList).1.2.2, I (compM s.data.toList).2]) [] := by
  by_cases h : s.size ≤ 64
  · exact f_ref09_Compile s (by omega)
  · refine st0 m_ref09_Compile ?_
    have hc : compM s.data.toList = ((false, false, []), 12) := by unfold compM; rw [if_pos (by rw [ba_len]; omega)]
    have d0 : decide ((64 : Int) < (s.size : Int)) = true := decide_eq_true (by omega)
    rw [hc]
    simp only [go_sem, s_ref09_Compile, d0]
    refine wS [] ?_
    simp only [go_sem, r_ref09_Compile, exists_eq_left', Option.some.injEq]
    simp [wkV, wkL, slTrees, AV.asOwn, rowPart, stoOf, AV.isNil, shA, rowsT, cellsT, cellT]

theorem f_needle_Match_any (p tx : ByteArray) (ht : tx.size < 70368744177664) : Meets Tryz.prog E0 n_needle_Match [.t (.v (.string p)), .t (.v (.string tx))] [] (.tp [Bo (if (compM p.data.toList).2 = 0 then foundM (compM p.data.toList).1.1 (compM p.data.toList).1.2.1 (compM p.data.toList).1.2.2 tx.data.toList else false), I (compM p.data.toList).2]) [] := by
  refine st0 m_needle_Match ?_
  simp only [go_sem, s_needle_Match]
  refine Cl_plain (f_needle_Compile_any p) ?_
  have hlen := compM_len p.data.toList
  generalize compM p.data.toList = x at *
  obtain ⟨⟨a, z, is⟩, e⟩ := x
  simp only at hlen
  simp only [go_sem]
  refine W_split rfl (fun h => ?_) (fun h => ?_)
  · simp at h
    simp only [go_sem]
    refine wE ?_
    simp only [go_sem, r_needle_Match]
    simp [h]
  · simp at h
    simp only [go_sem]
    refine Cl_plain (f_needle_Found a z is (by omega) tx (by omega)) ?_
    simp only [go_sem]
    refine wE ?_
    simp only [go_sem, r_needle_Match]
    simp [h]

theorem f_ref09_Match_any (p tx : ByteArray) (ht : tx.size < 70368744177664) : Meets Tryz.prog E0 n_ref09_Match [.t (.v (.string p)), .t (.v (.string tx))] [] (.tp [Bo (if (compM p.data.toList).2 = 0 then foundM (compM p.data.toList).1.1 (compM p.data.toList).1.2.1 (compM p.data.toList).1.2.2 tx.data.toList else false), I (compM p.data.toList).2]) [] := by
  refine st0 m_ref09_Match ?_
  simp only [go_sem, s_ref09_Match]
  refine Cl_plain (f_ref09_Compile_any p) ?_
  have hlen := compM_len p.data.toList
  generalize compM p.data.toList = x at *
  obtain ⟨⟨a, z, is⟩, e⟩ := x
  simp only at hlen
  simp only [go_sem]
  refine W_split rfl (fun h => ?_) (fun h => ?_)
  · simp at h
    simp only [go_sem]
    refine wE ?_
    simp only [go_sem, r_ref09_Match]
    simp [h]
  · simp at h
    simp only [go_sem]
    refine Cl_plain (f_ref09_Found a z is (by omega) tx ht) ?_
    simp only [go_sem]
    refine wE ?_
    simp only [go_sem, r_ref09_Match]
    simp [h, found_ref]

end Go.Proofs.YtaeleljlpcjcdaaGreatDoor
namespace Go.Proofs.YtaeleljlpcjcdaaGreatDoor
open Go Go.Sx

/-- The cells of what asks. -/
def askL (m : List UInt8) (l : List CfPair) (u e : Int) : List AV := [Str (toB m), .t (.sl 2 (l.map pairT)), I u, I e]

theorem wO_RuAsk {io : List Nat} {env : List (Nat × AV)} {sto : List (Nat × Ob)} {res : List RV} {r : AV} {e : Exit} {outs : List (Nat × Ob)} (rn : List (Nat × Nat)) (sn : List Nat) (hr : ∃ raw, (resL env sto res).map packR = some raw ∧ wkV (stoOf sto) sn (ren rn) raw r) (he : e = .ret ∨ e = .normal := by first | exact Or.inl rfl | exact Or.inr rfl)
    (hi : ∀ i ∈ r.ids, i ∈ keysOf outs := by simp [AV.ids, idsL, keysOf]) (h2 : stoS sto sn rn outs outs := by simp [stoS, wkO, ls_cons, ls_nil, stoOf, ren, keysOf, Ob.ids, wkV, wkL, AV.one, idsL, AV.ids, askL] <;> assumption) (h3 : ((keysOf outs).map (ren rn)).Nodup := by simp [keysOf, ren])
    (h4 : ∀ i ∈ sn, 100 ≤ i ∧ isRow (stoOf sto i) = true ∧ ∀ j ∈ keysOf outs, ren rn j ≠ i := by simp [stoOf, keysOf, ren]) (h5 : ∀ i ∈ io, ren rn i = i := by simp [keysOf, ren]) (h6 : ∀ i ∈ keysOf outs, ren rn i ∈ io → i = ren rn i := by simp [keysOf, ren]) :
    SEnds io res r outs e ⟨envOf env, stoOf sto⟩ := wO rn sn hr he hi h2 h3 h4 h5 h6

/-- The first error counts. -/
def errF (a b : Int) : Int := if a = 0 then b else a

theorem errF_zero (a : Int) : errF a 0 = a := by unfold errF; split <;> omega

theorem f_asked_fail0 (m : List UInt8) (l : List CfPair) (u e x : Int) : Meets Tryz.prog E0 n_rules_asked_fail [.ptr 0 0, I x] [(0, .box (askL m l u e))] (.tp []) [(0, .box (askL m l u (errF e x)))] := by
  refine m_rules_asked_fail (by simp) (shut_of (by simp [idsL, AV.ids, keysOf, askL]) (by simp [Ob.live, Ob.ids, keysOf, idsL, AV.ids, askL])) (shut_of (by simp [idsL, AV.ids, keysOf, askL]) (by simp [Ob.live, Ob.ids, keysOf, idsL, AV.ids, askL])) (by simp [keysOf]) (by simp [keysOf]) ?_
  unfold errF
  by_cases h : e = 0
  · have d0 : decide (e = 0) = true := decide_eq_true h
    rw [if_pos h]
    simp only [go_sem, s_rules_asked_fail, d0, askL]
    refine wO_RuAsk [] [] ?_
    simp only [go_sem, r_rules_asked_fail, exists_eq_left', Option.some.injEq]
    simp [wkV, wkL, slTrees, AV.asOwn, rowPart, stoOf, AV.isNil, shA, rowsT, cellsT, cellT]
  · have d0 : decide (e = 0) = false := decide_eq_false h
    rw [if_neg h]
    simp only [go_sem, s_rules_asked_fail, d0, askL]
    refine wO_RuAsk [] [] ?_
    simp only [go_sem, r_rules_asked_fail, exists_eq_left', Option.some.injEq]
    simp [wkV, wkL, slTrees, AV.asOwn, rowPart, stoOf, AV.isNil, shA, rowsT, cellsT, cellT]

theorem f_asked_fail (id : Nat) (m : List UInt8) (l : List CfPair) (u e x : Int) : Meets Tryz.prog E0 n_rules_asked_fail [.ptr id 0, I x] [(id, .box (askL m l u e))] (.tp []) [(id, .box (askL m l u (errF e x)))] := by
  have := (f_asked_fail0 m l u e x).ren (fun _ => id) (by simp [keysOf])
  exact this

def someI (o : Option (List UInt8)) : Int := if o.isSome then 1 else 0

theorem f_asked_get0 (m : List UInt8) (l : List CfPair) (u e : Int) (n : List UInt8) (hl : l.length ≤ 1000000) (h0 : 0 ≤ u) (h1 : u ≤ 1000) : Meets Tryz.prog E0 n_rules_asked_get [.ptr 0 0, Str (toB n)] [(0, .box (askL m l u e))] (.tp [Str (toB ((cfGet l n).getD [])), Bo (cfGet l n).isSome]) [(0, .box (askL m l (u + someI (cfGet l n)) e))] := by
  refine m_rules_asked_get (by simp) (shut_of (by simp [idsL, AV.ids, keysOf, askL]) (by simp [Ob.live, Ob.ids, keysOf, idsL, AV.ids, askL])) (shut_of (by simp [idsL, AV.ids, keysOf, askL]) (by simp [Ob.live, Ob.ids, keysOf, idsL, AV.ids, askL])) (by simp [keysOf]) (by simp [keysOf]) ?_
  simp only [go_sem, s_rules_asked_get, askL]
  refine Cl_plain (f_config_Get m l n hl) ?_
  unfold someI
  have ei : IntKind.i64.wrap (u + 1) = u + 1 := wrap_i64_of (by omega) (by omega)
  cases hb : (cfGet l n).isSome
  · have eu : u + (if (false : Bool) = true then (1 : Int) else 0) = u := by simp
    rw [eu]
    simp only [go_sem]
    refine wO_RuAsk [] [] ?_
    simp only [go_sem, r_rules_asked_get, exists_eq_left', Option.some.injEq]
    simp [wkV, wkL, slTrees, AV.asOwn, rowPart, stoOf, AV.isNil, shA, rowsT, cellsT, cellT]
  · have eu : u + (if (true : Bool) = true then (1 : Int) else 0) = u + 1 := by simp
    rw [eu]
    simp only [go_sem, ei]
    refine wO_RuAsk [] [] ?_
    simp only [go_sem, r_rules_asked_get, exists_eq_left', Option.some.injEq]
    simp [wkV, wkL, slTrees, AV.asOwn, rowPart, stoOf, AV.isNil, shA, rowsT, cellsT, cellT]

theorem f_asked_get (id : Nat) (m : List UInt8) (l : List CfPair) (u e : Int) (n : List UInt8) (hl : l.length ≤ 1000000) (h0 : 0 ≤ u) (h1 : u ≤ 1000) : Meets Tryz.prog E0 n_rules_asked_get [.ptr id 0, Str (toB n)] [(id, .box (askL m l u e))] (.tp [Str (toB ((cfGet l n).getD [])), Bo (cfGet l n).isSome]) [(id, .box (askL m l (u + someI (cfGet l n)) e))] := by
  have := (f_asked_get0 m l u e n hl h0 h1).ren (fun _ => id) (by simp [keysOf])
  exact this

def noneE (o : Option (List UInt8)) : Int := if o.isSome then 0 else 7

theorem f_asked_must0 (m : List UInt8) (l : List CfPair) (u e : Int) (n : List UInt8) (hl : l.length ≤ 1000000) (h0 : 0 ≤ u) (h1 : u ≤ 1000) : Meets Tryz.prog E0 n_rules_asked_must [.ptr 0 0, Str (toB n)] [(0, .box (askL m l u e))] (Str (toB ((cfGet l n).getD []))) [(0, .box (askL m l (u + someI (cfGet l n)) (errF e (noneE (cfGet l n)))))] := by
  refine m_rules_asked_must (by simp) (shut_of (by simp [idsL, AV.ids, keysOf, askL]) (by simp [Ob.live, Ob.ids, keysOf, idsL, AV.ids, askL])) (shut_of (by simp [idsL, AV.ids, keysOf, askL]) (by simp [Ob.live, Ob.ids, keysOf, idsL, AV.ids, askL])) (by simp [keysOf]) (by simp [keysOf]) ?_
  simp only [go_sem, s_rules_asked_must, askL]
  have ho1 := f_asked_get 0 m l u e n hl h0 h1
  simp only [askL] at ho1
  refine oB (ho1) ?_
  unfold noneE
  cases hb : (cfGet l n).isSome
  · rw [if_neg (by decide)]
    simp only [go_sem]
    have ho2 := f_asked_fail 0 m l (u + someI (cfGet l n)) e 7
    simp only [askL] at ho2
    refine oB (ho2) ?_
    simp only [go_sem]
    refine wO_RuAsk [] [] ?_
    simp only [go_sem, r_rules_asked_must, exists_eq_left', Option.some.injEq]
    simp [wkV, wkL, slTrees, AV.asOwn, rowPart, stoOf, AV.isNil, shA, rowsT, cellsT, cellT]
  · rw [if_pos rfl, errF_zero]
    simp only [go_sem]
    refine wO_RuAsk [] [] ?_
    simp only [go_sem, r_rules_asked_must, exists_eq_left', Option.some.injEq]
    simp [wkV, wkL, slTrees, AV.asOwn, rowPart, stoOf, AV.isNil, shA, rowsT, cellsT, cellT]

theorem f_asked_must (id : Nat) (m : List UInt8) (l : List CfPair) (u e : Int) (n : List UInt8) (hl : l.length ≤ 1000000) (h0 : 0 ≤ u) (h1 : u ≤ 1000) : Meets Tryz.prog E0 n_rules_asked_must [.ptr id 0, Str (toB n)] [(id, .box (askL m l u e))] (Str (toB ((cfGet l n).getD []))) [(id, .box (askL m l (u + someI (cfGet l n)) (errF e (noneE (cfGet l n)))))] := by
  have := (f_asked_must0 m l u e n hl h0 h1).ren (fun _ => id) (by simp [keysOf])
  exact this

def overE (u : Int) (l : List CfPair) : Int := if u < (l.length : Int) then 7 else 0

theorem f_asked_over0 (m : List UInt8) (l : List CfPair) (u e : Int) : Meets Tryz.prog E0 n_rules_asked_over [.ptr 0 0] [(0, .box (askL m l u e))] (.tp []) [(0, .box (askL m l u (errF e (overE u l))))] := by
  refine m_rules_asked_over (by simp) (shut_of (by simp [idsL, AV.ids, keysOf, askL]) (by simp [Ob.live, Ob.ids, keysOf, idsL, AV.ids, askL])) (shut_of (by simp [idsL, AV.ids, keysOf, askL]) (by simp [Ob.live, Ob.ids, keysOf, idsL, AV.ids, askL])) (by simp [keysOf]) (by simp [keysOf]) ?_
  have hlen : (l.map pairT).length = l.length := by simp
  unfold overE
  by_cases h : u < (l.length : Int)
  · have d0 : decide (u < (l.length : Int)) = true := decide_eq_true h
    rw [if_pos h]
    ((try (with_reducible refine rF ?_)); (try simp only [go_sem, s_rules_asked_over, hlen, d0, askL]))
    have ho3 := f_asked_fail 0 m l u e 7
    simp only [askL] at ho3
    refine oB (ho3) ?_
    simp only [go_sem]
    refine wO_RuAsk [] [] ?_
    simp only [go_sem, r_rules_asked_over, exists_eq_left', Option.some.injEq]
    simp [wkV, wkL, slTrees, AV.asOwn, rowPart, stoOf, AV.isNil, shA, rowsT, cellsT, cellT]
  · have d0 : decide (u < (l.length : Int)) = false := decide_eq_false h
    rw [if_neg h, errF_zero]
    ((try (with_reducible refine rF ?_)); (try simp only [go_sem, s_rules_asked_over, hlen, d0, askL]))
    refine wO_RuAsk [] [] ?_
    simp only [go_sem, r_rules_asked_over, exists_eq_left', Option.some.injEq]
    simp [wkV, wkL, slTrees, AV.asOwn, rowPart, stoOf, AV.isNil, shA, rowsT, cellsT, cellT]

theorem f_asked_over (id : Nat) (m : List UInt8) (l : List CfPair) (u e : Int) : Meets Tryz.prog E0 n_rules_asked_over [.ptr id 0] [(id, .box (askL m l u e))] (.tp []) [(id, .box (askL m l u (errF e (overE u l))))] := by
  have := (f_asked_over0 m l u e).ren (fun _ => id) (by simp [keysOf])
  exact this

def compE (p : List UInt8) : Int := (compM (toB p).data.toList).2

theorem f_asked_pattern0 (m : List UInt8) (l : List CfPair) (u e : Int) (p : List UInt8) : Meets Tryz.prog E0 n_rules_asked_pattern [.ptr 0 0, Str (toB p)] [(0, .box (askL m l u e))] (.tp []) [(0, .box (askL m l u (errF e (compE p))))] := by
  refine m_rules_asked_pattern (by simp) (shut_of (by simp [idsL, AV.ids, keysOf, askL]) (by simp [Ob.live, Ob.ids, keysOf, idsL, AV.ids, askL])) (shut_of (by simp [idsL, AV.ids, keysOf, askL]) (by simp [Ob.live, Ob.ids, keysOf, idsL, AV.ids, askL])) (by simp [keysOf]) (by simp [keysOf]) ?_
  have hc := f_needle_Compile_any (toB p)
  unfold compE
  simp only [go_sem, s_rules_asked_pattern, askL]
  refine Cl_plain hc ?_
  generalize compM (toB p).data.toList = w
  obtain ⟨⟨a, b, c⟩, x⟩ := w
  simp only
  unfold needleV
  by_cases h : x = 0
  · have d0 : decide (x = 0) = true := decide_eq_true h
    have d1 : (!decide (x = 0)) = false := by rw [d0]; rfl
    rw [h, errF_zero]
    simp only [go_sem]
    refine wO_RuAsk [] [] ?_
    simp only [go_sem, r_rules_asked_pattern, exists_eq_left', Option.some.injEq]
    simp [wkV, wkL, slTrees, AV.asOwn, rowPart, stoOf, AV.isNil, shA, rowsT, cellsT, cellT]
  · have d0 : decide (x = 0) = false := decide_eq_false h
    simp only [go_sem, d0]
    have ho4 := f_asked_fail 0 m l u e x
    simp only [askL] at ho4
    refine oB (ho4) ?_
    simp only [go_sem]
    refine wO_RuAsk [] [] ?_
    simp only [go_sem, r_rules_asked_pattern, exists_eq_left', Option.some.injEq]
    simp [wkV, wkL, slTrees, AV.asOwn, rowPart, stoOf, AV.isNil, shA, rowsT, cellsT, cellT]

theorem f_asked_pattern (id : Nat) (m : List UInt8) (l : List CfPair) (u e : Int) (p : List UInt8) : Meets Tryz.prog E0 n_rules_asked_pattern [.ptr id 0, Str (toB p)] [(id, .box (askL m l u e))] (.tp []) [(id, .box (askL m l u (errF e (compE p))))] := by
  have := (f_asked_pattern0 m l u e p).ren (fun _ => id) (by simp [keysOf])
  exact this

end Go.Proofs.YtaeleljlpcjcdaaGreatDoor
namespace Go.Proofs.YtaeleljlpcjcdaaGreatDoor
open Go Go.Sx

/-- A text without its sign. -/
def dcRest (l : List UInt8) : List UInt8 := if headB 45 l then l.tail else if headB 43 l then l.tail else l
def dcWhole (r : List UInt8) : List UInt8 := r.takeWhile digB
def dcAfter (r : List UInt8) : List UInt8 := r.dropWhile digB
def dcPart (r : List UInt8) : List UInt8 := if headB 46 (dcAfter r) then (dcAfter r).tail.takeWhile digB else []
def dcEnd (r : List UInt8) : List UInt8 := if headB 46 (dcAfter r) then (dcAfter r).tail.dropWhile digB else dcAfter r
def dcOk (r : List UInt8) : Bool := (dcEnd r).isEmpty && !(dcWhole r ++ dcPart r).isEmpty
/-- The decimals that count, and whether those behind them count as one more. -/
def dcSix (p : List UInt8) : List UInt8 := (p ++ [48, 48, 48, 48, 48, 48]).take 6
def dcUp (p : List UInt8) : Bool := match p[6]? with
  | some b => decide (53 ≤ b.toNat)
  | none => false
def dcVal (r : List UInt8) : Nat := rtVal 0 (dcWhole r ++ dcSix (dcPart r)) + (dcUp (dcPart r)).toNat
/-- What a number's text says: millionths, an error. -/
def dcParse (l : List UInt8) : Int × Int :=
  if 64 < l.length then (0, 12) else if dcOk (dcRest l) = false then (0, 2) else if 9223372036854775808 ≤ dcVal (dcRest l) then (0, 3) else (if headB 45 l then -(dcVal (dcRest l) : Int) else dcVal (dcRest l), 0)

theorem rtVal_app (n : Nat) (a b : List UInt8) : rtVal n (a ++ b) = rtVal (rtVal n a) b := List.foldl_append ..

/-- What the document keeps while it reads: digits, points, decimals, the number, whether it is too far, whether one more counts. -/
structure DcS where
  dg : Nat
  pt : Nat
  bh : Nat
  n : Nat
  far : Bool
  up : Bool

def dcTen (n : Nat) (far : Bool) (d : Nat) : Nat × Bool := if 1152921504606846976 < n then (n, true) else (n * 10 + d, far)

def dcStep (s : DcS) (b : UInt8) : Option DcS :=
  if b.toNat = 46 then some { s with pt := s.pt + 1 }
  else if digB b = false then none
  else
    let bh := if 0 < s.pt then s.bh + 1 else s.bh
    let up := if bh = 7 then decide (53 ≤ b.toNat) else s.up
    if 6 < bh then some { s with dg := s.dg + 1, bh := bh, up := up }
    else some { s with dg := s.dg + 1, bh := bh, up := up, n := (dcTen s.n s.far (b.toNat - 48)).1, far := (dcTen s.n s.far (b.toNat - 48)).2 }

def dcRun : DcS → List UInt8 → Option DcS
  | s, [] => some s
  | s, b :: l => match dcStep s b with
    | some s' => dcRun s' l
    | none => none

def dcPad : Nat → Nat × Bool → Nat × Bool
  | 0, x => x
  | k + 1, x => dcPad k (dcTen x.1 x.2 0)

/-- What is kept stands for the number itself. -/
def Rep (N n : Nat) (far : Bool) : Prop := (far = false ∧ n = N ∧ n ≤ 11529215046068469769) ∨ (far = true ∧ 9223372036854775808 ≤ N ∧ n ≤ 11529215046068469769)

theorem rep_ten {N n d : Nat} {far : Bool} (h : Rep N n far) (hd : d ≤ 9) : Rep (N * 10 + d) (dcTen n far d).1 (dcTen n far d).2 := by
  unfold dcTen
  unfold Rep at *
  by_cases hn : 1152921504606846976 < n
  · rw [if_pos hn]
    right
    rcases h with ⟨_, h2, h3⟩ | ⟨_, h2, h3⟩
    · exact ⟨rfl, by omega, h3⟩
    · exact ⟨rfl, by omega, h3⟩
  · rw [if_neg hn]
    rcases h with ⟨h1, h2, h3⟩ | ⟨h1, h2, h3⟩
    · left; exact ⟨h1, by omega, by simp only; omega⟩
    · right; exact ⟨h1, by omega, by simp only; omega⟩

theorem dig_le {b : UInt8} (h : digB b = true) : b.toNat ≠ 46 ∧ b.toNat - 48 ≤ 9 := by
  unfold digB at h
  simp only [Bool.and_eq_true, decide_eq_true_eq] at h
  omega

/-- Digits ahead of the point. -/
theorem run_whole : ∀ (w t : List UInt8) (s : DcS) (N : Nat), w.all digB = true → s.pt = 0 → s.bh = 0 → s.up = false → Rep N s.n s.far →
    ∃ s', dcRun s (w ++ t) = dcRun s' t ∧ s'.dg = s.dg + w.length ∧ s'.pt = 0 ∧ s'.bh = 0 ∧ s'.up = false ∧ Rep (rtVal N w) s'.n s'.far
  | [], t, s, N, _, h1, h2, h3, h4 => ⟨s, rfl, rfl, h1, h2, h3, by rw [rtVal_nil]; exact h4⟩
  | b :: w, t, s, N, hw, h1, h2, h3, h4 => by
    simp only [List.all_cons, Bool.and_eq_true] at hw
    obtain ⟨d1, d2⟩ := dig_le hw.1
    have hs : dcStep s b = some { s with dg := s.dg + 1, n := (dcTen s.n s.far (b.toNat - 48)).1, far := (dcTen s.n s.far (b.toNat - 48)).2 } := by
      unfold dcStep
      rw [if_neg d1, hw.1, if_neg (by decide)]
      simp only [h1, h2, Nat.lt_irrefl, if_false]
      simp only [show ¬ (0 : Nat) = 7 by decide, show ¬ (6 : Nat) < 0 by decide, if_false]
    obtain ⟨s', g1, g2, g3, g4, g5, g6⟩ := run_whole w t { s with dg := s.dg + 1, n := (dcTen s.n s.far (b.toNat - 48)).1, far := (dcTen s.n s.far (b.toNat - 48)).2 } (N * 10 + (b.toNat - 48)) hw.2 h1 h2 h3 (rep_ten h4 d2)
    refine ⟨s', ?_, ?_, g3, g4, g5, by rw [rtVal_cons]; exact g6⟩
    · rw [List.cons_append, dcRun, hs]; exact g1
    · rw [g2]; simp only [List.length_cons]; omega

/-- Digits behind the point. -/
theorem run_part : ∀ (w t : List UInt8) (s : DcS) (p : List UInt8) (N : Nat), w.all digB = true → s.pt = 1 → s.bh = p.length → s.up = dcUp p → Rep (rtVal N (p.take 6)) s.n s.far →
    ∃ s', dcRun s (w ++ t) = dcRun s' t ∧ s'.dg = s.dg + w.length ∧ s'.pt = 1 ∧ s'.bh = (p ++ w).length ∧ s'.up = dcUp (p ++ w) ∧ Rep (rtVal N ((p ++ w).take 6)) s'.n s'.far
  | [], t, s, p, N, _, h1, h2, h3, h4 => ⟨s, rfl, rfl, h1, by rw [List.append_nil]; exact h2, by rw [List.append_nil]; exact h3, by rw [List.append_nil]; exact h4⟩
  | b :: w, t, s, p, N, hw, h1, h2, h3, h4 => by
    simp only [List.all_cons, Bool.and_eq_true] at hw
    obtain ⟨d1, d2⟩ := dig_le hw.1
    have hpl : (p ++ [b]).length = p.length + 1 := by simp
    have hup : (if p.length + 1 = 7 then decide (53 ≤ b.toNat) else dcUp p) = dcUp (p ++ [b]) := by
      unfold dcUp
      by_cases h6 : p.length = 6
      · rw [if_pos (by omega), List.getElem?_append_right (by omega), h6]; rfl
      · rw [if_neg (by omega)]
        by_cases h7 : 6 < p.length
        · rw [List.getElem?_append_left h7]
        · rw [List.getElem?_eq_none (show (p ++ [b]).length ≤ 6 by omega), List.getElem?_eq_none (show p.length ≤ 6 by omega)]
    have hst : ∃ s', dcStep s b = some s' ∧ s'.dg = s.dg + 1 ∧ s'.pt = 1 ∧ s'.bh = (p ++ [b]).length ∧ s'.up = dcUp (p ++ [b]) ∧ Rep (rtVal N ((p ++ [b]).take 6)) s'.n s'.far := by
      unfold dcStep
      rw [if_neg d1, hw.1, if_neg (by decide)]
      simp only [h1, h2, h3, show (0 : Nat) < 1 by decide, if_true]
      by_cases h6 : 6 < p.length + 1
      · rw [if_pos h6]
        refine ⟨_, rfl, rfl, rfl, hpl.symm, hup, ?_⟩
        simp only
        rw [List.take_append_of_le_length (by omega)]; exact h4
      · rw [if_neg h6]
        refine ⟨_, rfl, rfl, rfl, hpl.symm, hup, ?_⟩
        simp only
        rw [List.take_of_length_le (by omega), rtVal_app, rtVal_cons, rtVal_nil]
        rw [List.take_of_length_le (by omega)] at h4
        exact rep_ten h4 d2
    obtain ⟨s1, e1, e2, e3, e4, e5, e6⟩ := hst
    obtain ⟨s', g1, g2, g3, g4, g5, g6⟩ := run_part w t s1 (p ++ [b]) N hw.2 e3 e4 e5 e6
    have ea : p ++ [b] ++ w = p ++ b :: w := by simp
    rw [ea] at g4 g5 g6
    refine ⟨s', ?_, ?_, g3, g4, g5, g6⟩
    · rw [List.cons_append, dcRun, e1]; exact g1
    · rw [g2, e2]; simp only [List.length_cons]; omega

/-- Points only get more. -/
theorem run_pt : ∀ (l : List UInt8) (s s' : DcS), dcRun s l = some s' → s.pt ≤ s'.pt
  | [], s, s', h => by injection h with h; rw [h]; exact Nat.le_refl _
  | b :: l, s, s', h => by
    rw [dcRun] at h
    cases hs : dcStep s b with
    | none => rw [hs] at h; cases h
    | some s1 =>
      rw [hs] at h
      have h1 := run_pt l s1 s' h
      have h2 : s.pt ≤ s1.pt := by
        unfold dcStep at hs
        split at hs
        · injection hs with hs; rw [← hs]; simp
        · split at hs
          · cases hs
          · simp only at hs
            split at hs <;> split at hs <;> (injection hs with hs; rw [← hs]; exact Nat.le_refl _)
      omega

theorem pad_rep : ∀ (k : Nat) (N : Nat) (x : Nat × Bool), Rep N x.1 x.2 → Rep (rtVal N (List.replicate k 48)) (dcPad k x).1 (dcPad k x).2
  | 0, N, x, h => by rw [List.replicate_zero, rtVal_nil]; exact h
  | k + 1, N, x, h => by
    rw [List.replicate_succ, rtVal_cons]
    exact pad_rep k _ _ (by have := rep_ten h (show 0 ≤ 9 by decide); exact this)

def dc0 : DcS := ⟨0, 0, 0, 0, false, false⟩

theorem tw_all (r : List UInt8) : (r.takeWhile digB).all digB = true := by
  induction r with
  | nil => rfl
  | cons b r ih =>
    simp only [List.takeWhile_cons]
    split
    · rename_i h; simp [h, ih]
    · rfl

theorem after_head (r : List UInt8) : r.dropWhile digB = [] ∨ ∃ b t, r.dropWhile digB = b :: t ∧ digB b = false := by
  induction r with
  | nil => exact .inl rfl
  | cons b r ih =>
    simp only [List.dropWhile_cons]
    split
    · exact ih
    · rename_i h; exact .inr ⟨b, r, rfl, by simpa using h⟩

/-- What the document's reading comes to. -/
theorem dc_run (r : List UInt8) : (dcOk r = false ∧ (dcRun dc0 r = none ∨ ∃ s, dcRun dc0 r = some s ∧ (s.dg = 0 ∨ 1 < s.pt))) ∨
    (dcOk r = true ∧ ∃ s, dcRun dc0 r = some s ∧ s.dg ≠ 0 ∧ s.pt ≤ 1 ∧ s.up = dcUp (dcPart r) ∧ Rep (rtVal 0 (dcWhole r ++ dcSix (dcPart r))) (dcPad (6 - s.bh) (s.n, s.far)).1 (dcPad (6 - s.bh) (s.n, s.far)).2) := by
  have hsplit : dcWhole r ++ dcAfter r = r := List.takeWhile_append_dropWhile
  obtain ⟨s1, e1, e2, e3, e4, e5, e6⟩ := run_whole (dcWhole r) (dcAfter r) dc0 0 (tw_all r) rfl rfl rfl (.inl ⟨rfl, rfl, by decide⟩)
  rw [hsplit] at e1
  have hdg : s1.dg = (dcWhole r).length := by rw [e2]; simp [dc0]
  rcases after_head r with ha | ⟨b, t, ha, hb⟩
  · have hp : dcPart r = [] := by unfold dcPart dcAfter; rw [ha]; rfl
    have he : dcEnd r = [] := by unfold dcEnd dcAfter; rw [ha]; rfl
    have hA : dcAfter r = [] := ha
    rw [hA] at e1
    unfold dcOk
    rw [he, hp, List.append_nil]
    cases hw : dcWhole r with
    | nil => exact .inl ⟨rfl, .inr ⟨s1, e1, .inl (by rw [hdg, hw]; rfl)⟩⟩
    | cons c w =>
      refine .inr ⟨rfl, s1, e1, by rw [hdg, hw]; simp, by omega, e5, ?_⟩
      rw [e4]
      have := pad_rep 6 _ (s1.n, s1.far) e6
      rw [← rtVal_app, hw] at this
      exact this
  · have hA : dcAfter r = b :: t := ha
    rw [hA] at e1
    by_cases h46 : b.toNat = 46
    · have hbb : b = 46 := UInt8.toNat_inj.1 h46
      have hh : headB 46 (dcAfter r) = true := by rw [hA, hbb]; rfl
      have hp : dcPart r = t.takeWhile digB := by unfold dcPart; rw [hh, if_pos rfl, hA]; rfl
      have he : dcEnd r = t.dropWhile digB := by unfold dcEnd; rw [hh, if_pos rfl, hA]; rfl
      have hst : dcStep s1 b = some { s1 with pt := s1.pt + 1 } := by unfold dcStep; rw [if_pos h46]
      have e1' : dcRun dc0 r = dcRun { s1 with pt := s1.pt + 1 } t := by rw [e1, dcRun, hst]
      obtain ⟨s2, g1, g2, g3, g4, g5, g6⟩ := run_part (t.takeWhile digB) (t.dropWhile digB) { s1 with pt := s1.pt + 1 } [] (rtVal 0 (dcWhole r)) (tw_all t) (by simp only [e3]) (by simp only [e4]; rfl) (by simp only [e5]; rfl) (by simpa [rtVal_nil] using e6)
      rw [List.takeWhile_append_dropWhile] at g1
      rw [List.nil_append] at g4 g5 g6
      rw [g1] at e1'
      unfold dcOk
      rw [he, hp]
      rcases after_head t with hta | ⟨c, u, hta, hc⟩
      · rw [hta] at e1' ⊢
        by_cases hz : dcWhole r ++ t.takeWhile digB = []
        · left
          rw [hz]
          refine ⟨rfl, .inr ⟨s2, e1', .inl ?_⟩⟩
          have := congrArg List.length hz
          simp only [List.length_append, List.length_nil] at this
          rw [g2]; simp only [hdg]; omega
        · right
          refine ⟨by cases hq : dcWhole r ++ t.takeWhile digB; exact absurd hq hz; rfl, s2, e1', ?_, by omega, g5, ?_⟩
          · rw [g2]; simp only [hdg]
            intro h0
            apply hz
            apply List.eq_nil_of_length_eq_zero
            rw [List.length_append]; exact h0
          · rw [g4]
            generalize t.takeWhile digB = p at *
            have h6 : dcSix p = p.take 6 ++ List.replicate (6 - p.length) 48 := by
              unfold dcSix
              by_cases hl : 6 ≤ p.length
              · rw [List.take_append_of_le_length hl, show 6 - p.length = 0 by omega]; simp
              · rw [List.take_append, List.take_of_length_le (show p.length ≤ 6 by omega)]
                congr 1
                have : ∀ k, k ≤ 6 → ([48, 48, 48, 48, 48, 48] : List UInt8).take k = List.replicate k 48 := by
                  intro k hk
                  rw [show ([48, 48, 48, 48, 48, 48] : List UInt8) = List.replicate 6 48 from rfl, List.take_replicate, Nat.min_eq_left hk]
                exact this _ (by omega)
            rw [h6, ← List.append_assoc, rtVal_app, rtVal_app]
            exact pad_rep _ _ (s2.n, s2.far) g6
      · left
        refine ⟨by rw [hta]; rfl, ?_⟩
        rw [hta] at e1'
        by_cases hc46 : c.toNat = 46
        · have hst2 : dcStep s2 c = some { s2 with pt := s2.pt + 1 } := by unfold dcStep; rw [if_pos hc46]
          rw [dcRun, hst2] at e1'
          cases hr : dcRun { s2 with pt := s2.pt + 1 } u with
          | none => exact .inl (e1'.trans hr)
          | some s3 =>
            have := run_pt u _ s3 hr
            exact .inr ⟨s3, e1'.trans hr, .inr (by simp only at this; omega)⟩
        · have hst2 : dcStep s2 c = none := by unfold dcStep; rw [if_neg hc46, hc, if_pos rfl]
          rw [dcRun, hst2] at e1'
          exact .inl e1'
    · left
      have hbn : b ≠ 46 := fun e => h46 (by rw [e]; rfl)
      have hh : headB 46 (dcAfter r) = false := by rw [hA]; unfold headB; simpa using hbn
      have he : dcEnd r = b :: t := by unfold dcEnd; rw [hh, if_neg (by decide), hA]
      refine ⟨by unfold dcOk; rw [he]; rfl, .inl ?_⟩
      have hst2 : dcStep s1 b = none := by unfold dcStep; rw [if_neg h46, hb, if_pos rfl]
      rw [e1, dcRun, hst2]

/-- What is told of what was read. -/
theorem rep_far {N n : Nat} {far : Bool} (u : Bool) (h : Rep N n far) : (far || decide (9223372036854775808 - 1 < n + u.toNat)) = decide (9223372036854775808 ≤ N + u.toNat) ∧ (9223372036854775808 ≤ N + u.toNat ∨ (far = false ∧ n = N)) ∧ n + u.toNat < 18446744073709551616 := by
  have hu : u.toNat ≤ 1 := by cases u <;> decide
  rcases h with ⟨h1, h2, h3⟩ | ⟨h1, h2, h3⟩
  · rw [h1, h2, Bool.false_or]
    exact ⟨decide_eq_decide.2 (by omega), .inr ⟨rfl, rfl⟩, by omega⟩
  · rw [h1, Bool.true_or]
    exact ⟨(decide_eq_true (by omega)).symm, .inl (by omega), by omega⟩

end Go.Proofs.YtaeleljlpcjcdaaGreatDoor
namespace Go.Proofs.YtaeleljlpcjcdaaGreatDoor
open Go Go.Sx Go.RowKit Go.Shelf

theorem isE (s : ByteArray) : s.toList.isEmpty = decide (s.size = 0) := by
  rw [Lib.toList_data, ← ba_len]
  cases s.data.toList <;> simp

set_option maxRecDepth 100000 in
theorem calls_whole (s : ByteArray) (hs : s.size ≤ 140737488351232) (w : World) (hE : E0.gi w) : Calls Tryz.prog 135 #[.string s] w fun e w' => e = .returned (.tuple #[.int .i64 (rtWhole s.data.toList).1, .int .i64 (rtWhole s.data.toList).2]) ∧ Below w.heap.size w w' := by
  have hT : ∀ w, Calls Tryz.prog 110 #[.string s, .string ⟨#[48, 49, 50, 51, 52, 53, 54, 55, 56, 57]⟩] w fun e w' => e = .returned (.string ⟨(Lib.trimS s.data.toList digits10.data.toList).toArray⟩) ∧ Below w.heap.size w w' := fun w =>
    Go.Proofs.Any.strings_Trim_laid Tryz.laysTrim (by kernel_rfl) s digits10 w (by omega) (by decide) (ascii_of_all (by decide))
  obtain ⟨te, pe, hev⟩ : ∃ te pe, w.cell? ⟨g_strconv_ErrRange, 0, none⟩ = some (.iface te pe) := hE.2 _ (by decide)
  obtain ⟨r, hr⟩ : ∃ r : ByteArray, r = ⟨(Lib.trimS s.data.toList digits10.data.toList).toArray⟩ := ⟨_, rfl⟩
  have hrs : r.size = 0 ↔ s.data.toList.all digB = true := by
    have e1 : r.size = (Lib.trimS s.data.toList digits10.data.toList).length := by rw [hr, ← ba_len]
    rw [e1, List.length_eq_zero_iff, trimS_nil, List.all_eq_true]
    exact forall_congr' fun b => imp_congr_right fun _ => by rw [dig_in]
  rw [← hr] at hT
  clear hr
  by_cases h0 : s.size = 0
  · have hem : s.toList.isEmpty = true := by rw [isE]; simpa using h0
    have hw : rtWhole s.data.toList = (0, 2) := by
      have : s.data.toList = [] := List.eq_nil_of_length_eq_zero (by rw [ba_len]; exact h0)
      rw [this]; rfl
    rw [hw]
    clear hrs hw
    go_enter Tryz.func135, Tryz.ntmps135
    go_wp2
    go_ret2
    exact ⟨rfl, Below.refl _ _⟩
  · have hem : s.toList.isEmpty = false := by rw [isE]; simpa using h0
    have hne : s.data.toList ≠ [] := by intro h; rw [← ba_len, h] at h0; exact h0 rfl
    by_cases hd : s.data.toList.all digB = true
    · have hre : r.toList.isEmpty = true := by rw [isE]; simpa using hrs.2 hd
      have hv := rtNum_val s.data.toList hd 0 0 (by simp)
      have hn : (rtNum 0 s.data.toList).2 = [] := (rtNum_all _ _).2 hd
      have hw : rtWhole s.data.toList = if rtVal 0 s.data.toList > 1099511627776 then (0, 3) else (((rtVal 0 s.data.toList : Nat) : Int), 0) := by
        unfold rtWhole
        rw [if_pos ⟨hne, hn⟩, hv]
        generalize rtVal 0 s.data.toList = v
        by_cases h : v > 1099511627776
        · rw [if_pos h, if_pos (by omega)]
        · rw [if_neg h, if_neg (by omega)]
          congr 2; omega
      have hp := parseI_of s.data.toList hne hd
      rw [hw]
      obtain ⟨v, hvv⟩ : ∃ v : Nat, rtVal 0 s.data.toList = v := ⟨_, rfl⟩
      rw [hvv] at hp ⊢
      clear hw hn hv hrs hvv hd
      rcases hp with ⟨hle, hp⟩ | ⟨hgt, hp | hp⟩
      · have hI : ∀ w, Calls Tryz.prog 116 #[.string s, .int .i64 10, .int .i64 64] w fun e w' => e = .returned (.tuple #[.int .i64 (v : Int), .nilIface]) ∧ Below w.heap.size w w' := fun w =>
          (Go.Proofs.Any.strconv_ParseInt_10_at64_ok Tryz.laysParseInt s (by omega) v hp w).mono fun e w' ⟨h1, h2⟩ => ⟨h1, by rcases h2 with rfl | ⟨t, rfl⟩; exact Below.refl _ _; exact Lib.bytesWorld_below _ _ _⟩
        rw [if_neg (by omega)]
        obtain ⟨a, ha⟩ : ∃ a : Int, a = (v : Int) := ⟨_, rfl⟩
        rw [← ha] at hI ⊢
        have hle' : ¬ (1099511627776 < a) := by omega
        clear hle ha hp hev
        go_enter Tryz.func135, Tryz.ntmps135
        go_wp2_with (go_at_call 110; refine (hT _).mono ?_; rintro e W1 ⟨rfl, hb1⟩)
        go_wp2_with (go_at_call 116; refine (hI _).mono ?_; rintro e W2 ⟨rfl, hb2⟩)
        go_wp2
        go_ret2
        exact ⟨rfl, hb1.trans (hb2.mono hb1.size)⟩
      · have hI : ∀ w, Calls Tryz.prog 116 #[.string s, .int .i64 10, .int .i64 64] w fun e w' => e = .returned (.tuple #[.int .i64 (v : Int), .nilIface]) ∧ Below w.heap.size w w' := fun w =>
          (Go.Proofs.Any.strconv_ParseInt_10_at64_ok Tryz.laysParseInt s (by omega) v hp w).mono fun e w' ⟨h1, h2⟩ => ⟨h1, by rcases h2 with rfl | ⟨t, rfl⟩; exact Below.refl _ _; exact Lib.bytesWorld_below _ _ _⟩
        rw [if_pos (by omega)]
        obtain ⟨a, ha⟩ : ∃ a : Int, a = (v : Int) := ⟨_, rfl⟩
        rw [← ha] at hI
        have hle' : 1099511627776 < a := by omega
        clear hgt ha hp hev
        go_enter Tryz.func135, Tryz.ntmps135
        go_wp2_with (go_at_call 110; refine (hT _).mono ?_; rintro e W1 ⟨rfl, hb1⟩)
        go_wp2_with (go_at_call 116; refine (hI _).mono ?_; rintro e W2 ⟨rfl, hb2⟩)
        go_wp2
        go_ret2
        exact ⟨rfl, hb1.trans (hb2.mono hb1.size)⟩
      · have hI : ∀ w1, w1.cell? ⟨g_strconv_ErrRange, 0, none⟩ = some (.iface te pe) → Calls Tryz.prog 116 #[.string s, .int .i64 10, .int .i64 64] w1 fun e w' => ∃ N a t, e = .returned (.tuple #[.int .i64 a, .iface t (.pointer (some ⟨N, 0, none⟩))]) ∧ Below w1.heap.size w1 w' := fun w1 h1 =>
          (Go.Proofs.Any.strconv_ParseInt_10_at64_range Tryz.laysParseInt s (by omega) hp (.iface te pe) w1 h1 (Or.inr ⟨te, pe, rfl⟩)).mono fun e w' ⟨N, h1, _, _, h2⟩ => ⟨N, _, _, h1, h2⟩
        rw [if_pos (by omega)]
        have hlt : g_strconv_ErrRange < w.heap.size := Lib.lt_of_cell hev
        have hev' : ∀ w1, Below w.heap.size w w1 → w1.cell? ⟨g_strconv_ErrRange, 0, none⟩ = some (.iface te pe) := fun w1 hb => (hb.cell (show (⟨g_strconv_ErrRange, 0, none⟩ : Addr).block < w.heap.size from hlt)).trans hev
        clear hgt hp hev hlt
        go_enter Tryz.func135, Tryz.ntmps135
        go_wp2_with (go_at_call 110; refine (hT _).mono ?_; rintro e W1 ⟨rfl, hb1⟩)
        go_wp2_with (go_at_call 116; refine (hI _ (hev' _ hb1)).mono ?_; rintro e W2 ⟨N, a, t, rfl, hb2⟩)
        go_wp2
        go_ret2
        exact ⟨rfl, hb1.trans (hb2.mono hb1.size)⟩
    · have hre : r.toList.isEmpty = false := by rw [isE]; exact decide_eq_false (fun h => hd (hrs.1 h))
      have hw : rtWhole s.data.toList = (0, 2) := by
        unfold rtWhole
        rw [if_neg]
        rintro ⟨_, h⟩; exact hd ((rtNum_all _ _).1 h)
      rw [hw]
      clear hw hrs hd hev
      go_enter Tryz.func135, Tryz.ntmps135
      go_wp2_with (go_at_call 110; refine (hT _).mono ?_; rintro e W1 ⟨rfl, hb1⟩)
      go_wp2
      go_ret2
      exact ⟨rfl, hb1⟩

theorem f_retention_whole (s : ByteArray) (hs : s.size ≤ 140737488351232) : Meets Tryz.prog E0 n_retention_whole [Str s] [] (.tp [I (rtWhole s.data.toList).1, I (rtWhole s.data.toList).2]) [] := by
  refine meets_lib (vals := [.string s]) (v := .tuple #[.int .i64 (rtWhole s.data.toList).1, .int .i64 (rtWhole s.data.toList).2]) (enters_of Tryz.func135 (by kernel_rfl) rfl) (fun A φ w => by simp only [CA, CAs, CT]; exact ⟨_, rfl, _, _, rfl, ⟨rfl, rfl⟩, _, _, rfl, ⟨rfl, rfl⟩, rfl⟩) rfl ?_
  intro w hE
  refine Calls.mono (calls_whole s hs w hE) ?_
  rintro e w' ⟨rfl, hb⟩
  exact ⟨rfl, grown_of_below hb (fun h => h)⟩

end Go.Proofs.YtaeleljlpcjcdaaGreatDoor
namespace Go.Proofs.YtaeleljlpcjcdaaGreatDoor
open Go Go.Sx Go.RowKit Go.Shelf

/-- A contract whose answer holds what is not told. -/
theorem meets_lib3 {P : Program} {E : Env} {f : FuncId} {vals : List Value} {r : AV} (he : ∀ args w, (callFunc f args).run P w = .ok (.enter f args) w) (hi : r.ids = [])
    (h : ∀ w, E.gi w → Calls P f vals.toArray w fun e w' => ∃ v, e = .returned v ∧ (∀ A φ, CA A φ w' r v) ∧ Grown E w w') : Meets P E f (vals.map fun x => .t (.v x)) [] r [] where
  shutIn := shut0 (ids_plain vals)
  shutOut := shut0 (by simp [idsL, hi])
  stay := by simp [keysOf]
  runs := fun A φ w args gi gA alt hH hargs => by
    have e : args = vals.toArray := by rw [← cas_plain hargs]
    subst e
    refine Or.inl ⟨he _ _, (h w gi).mono ?_⟩
    rintro e w' ⟨v, rfl, hr, hg⟩
    refine ⟨v, rfl, A, φ, ?_⟩
    exact {
      go := ⟨fun b hb => ⟨hb, hg.block b (alt b hb)⟩, fun b n hb => by
        have hlt : b < w.heap.size := by obtain ⟨cs, e, h1, _⟩ := hb; exact heap_lt h1
        exact RowCap.of_heap (hg.block b hlt) hb⟩
      agree := by simp [keysOf]
      holds := ⟨fun id o ho => by simp [stoOf] at ho, fun id o ho => by simp [stoOf] at ho, fun i j hi => by simp [keysOf] at hi⟩
      fresh := by simp [keysOf]
      ca := hr _ _
      anew := fun b hb => Or.inl hb
      alt := fun b hb => Nat.lt_of_lt_of_le (alt b hb) hg.size
      old := fun b hb _ => hg.block b hb
      os := hg.os
      tape := hg.tape
      output := hg.output
      drawn := hg.drawn
      size := hg.size }

theorem f_ParseInt_ok (l : List UInt8) (v : Int) (hl : l.length ≤ 1000000) (hp : Lib.parseIntB 64 l = .ok v) : Meets Tryz.prog E0 n_strconv_ParseInt [Str (toB l), I 10, I 64] [] (.tp [I v, .ifc false]) [] := by
  refine meets_lib3 (vals := [.string (toB l), .int .i64 10, .int .i64 64]) (enters_of Tryz.func116 (by kernel_rfl) rfl) rfl ?_
  intro w hE
  have hp' : Lib.parseIntB 64 (toB l).data.toList = .ok v := by rw [toB_data]; exact hp
  refine (Go.Proofs.Any.strconv_ParseInt_10_at64_ok Tryz.laysParseInt (toB l) (by rw [toB_size]; omega) v hp' w).mono ?_
  rintro e w' ⟨rfl, h2⟩
  refine ⟨_, rfl, fun A φ => ?_, grown_of_below (by rcases h2 with rfl | ⟨t, rfl⟩; exact Below.refl _ _; exact Lib.bytesWorld_below _ _ _) (fun h => h)⟩
  simp only [CA, CAs, CT]
  exact ⟨_, rfl, _, _, rfl, ⟨rfl, rfl⟩, _, _, rfl, ⟨fun h => Bool.noConfusion h, fun _ => rfl⟩, rfl⟩

theorem f_ParseInt_range (l : List UInt8) (hl : l.length ≤ 1000000) (hp : Lib.parseIntB 64 l = .range) : Meets Tryz.prog E0 n_strconv_ParseInt [Str (toB l), I 10, I 64] [] (.tp [.undef, .ifc true]) [] := by
  refine meets_lib3 (vals := [.string (toB l), .int .i64 10, .int .i64 64]) (enters_of Tryz.func116 (by kernel_rfl) rfl) rfl ?_
  intro w hE
  obtain ⟨te, pe, hev⟩ : ∃ te pe, w.cell? ⟨g_strconv_ErrRange, 0, none⟩ = some (.iface te pe) := hE.2 _ (by decide)
  have hp' : Lib.parseIntB 64 (toB l).data.toList = .range := by rw [toB_data]; exact hp
  refine (Go.Proofs.Any.strconv_ParseInt_10_at64_range Tryz.laysParseInt (toB l) (by rw [toB_size]; omega) hp' (.iface te pe) w hev (Or.inr ⟨te, pe, rfl⟩)).mono ?_
  rintro e w' ⟨N, h1, _, _, h2⟩
  refine ⟨_, h1, fun A φ => ?_, grown_of_below h2 (fun h => h)⟩
  simp only [CA, CAs]
  exact ⟨_, rfl, _, _, rfl, trivial, _, _, rfl, ⟨fun _ => ⟨_, _, rfl⟩, fun h => Bool.noConfusion h⟩, rfl⟩

theorem parse_digits : ∀ (l : List UInt8) (n : Nat), l.all digB = true → n < 18446744073709551616 → Lib.parseUintM (2 ^ 64 - 1) n l = if rtVal n l < 18446744073709551616 then .ok (rtVal n l) else .range
  | [], n, _, hn => by rw [rtVal_nil, if_pos hn]; rfl
  | b :: l, n, h, hn => by
    simp only [List.all_cons, Bool.and_eq_true] at h
    obtain ⟨hb, hl⟩ := h
    have hb' : 48 ≤ b.toNat ∧ b.toNat ≤ 57 := by unfold digB at hb; simpa using hb
    have hge := rtVal_ge l (n * 10 + (b.toNat - 48))
    simp only [Lib.parseUintM, if_pos hb', rtVal_cons]
    by_cases h1 : 1844674407370955162 ≤ n
    · rw [if_pos h1, if_neg (by omega)]
    · rw [if_neg h1]
      by_cases h2 : 2 ^ 64 - 1 < n * 10 + (b.toNat - 48)
      · rw [if_pos h2, if_neg (by omega)]
      · rw [if_neg h2]
        exact parse_digits l _ hl (by omega)

theorem parse_nought (l : List UInt8) (h : l.all digB = true) : Lib.parseIntB 64 (48 :: l) = if rtVal 0 l < 9223372036854775808 then .ok (rtVal 0 l : Int) else .range := by
  have h0 : (48 :: l : List UInt8).all digB = true := by simp only [List.all_cons, h, Bool.and_true]; decide
  have e0 : rtVal 0 (48 :: l) = rtVal 0 l := by rw [rtVal_cons]; rfl
  have hp := parse_digits (48 :: l) 0 h0 (by decide)
  rw [e0] at hp
  have e1 : (if (48 : UInt8).toNat = 43 ∨ (48 : UInt8).toNat = 45 then l else 48 :: l) = 48 :: l := if_neg (by decide)
  have e2 : Lib.parseUintB 64 (48 :: l) = Lib.parseUintM (2 ^ 64 - 1) 0 (48 :: l) := by simp [Lib.parseUintB]
  simp only [Lib.parseIntB, e1, e2, hp]
  have e3 : ¬ (48 : UInt8).toNat = 45 := by decide
  by_cases h1 : rtVal 0 l < 18446744073709551616
  · rw [if_pos h1]
    simp only [e3, not_false_eq_true, true_and, false_and, if_false]
    by_cases h2 : rtVal 0 l < 9223372036854775808
    · rw [if_pos h2, if_neg (by omega)]
    · rw [if_neg h2, if_pos (by omega)]
  · rw [if_neg h1, if_neg (by omega)]

theorem f_decimal_digits (l : List UInt8) (hl : l.length ≤ 1000000) : Meets Tryz.prog E0 n_decimal_digits [Str (toB l)] [] (I (l.takeWhile digB).length) [] := by
  refine st0 m_decimal_digits ?_
  simp only [go_sem, s_decimal_digits]
  refine W_loop (fun i : Nat => l.length - i) (fun i => i ≤ (l.takeWhile digB).length ∧ (l.take i).all digB = true ∧ i ≤ l.length)
    (fun i => [(0, Str (toB l)), (3, I i)]) (fun _ => []) 0 ⟨Nat.zero_le _, rfl, Nat.zero_le _⟩ (sR [] []) ?_
  rintro i ⟨hi, hall, hil⟩
  have hsplit : l.takeWhile digB ++ l.dropWhile digB = l := List.takeWhile_append_dropWhile
  by_cases h : i < (l.takeWhile digB).length
  · have hlt : i < l.length := by
      have := congrArg List.length hsplit
      rw [List.length_append] at this; omega
    have d1 : decide (i < l.length) = true := decide_eq_true hlt
    obtain ⟨b, hb, hbm⟩ : ∃ b, (l.takeWhile digB)[i]? = some b ∧ b ∈ l.takeWhile digB := ⟨_, List.getElem?_eq_getElem h, List.getElem_mem h⟩
    have hdb : digB b = true := by have := List.all_eq_true.1 (tw_all l) b hbm; exact this
    have hlb : l[i]? = some b := by rw [← hsplit, List.getElem?_append_left h]; exact hb
    have hg : (toB l)[i]? = some b := by rw [getT]; exact hlb
    unfold digB at hdb
    simp only [Bool.and_eq_true] at hdb
    obtain ⟨q1, q2⟩ := hdb
    have ei : IntKind.i64.wrap ((i : Int) + 1) = ((i + 1 : Nat) : Int) := by rw [wrap_i64_of (by omega) (by omega)]; omega
    simp only [go_sem, toB_size, d1, hg, q1, q2, ei]
    exact rd_of (i + 1) (by first | omega | (simp only; omega)) ⟨h, by rw [List.take_add_one, hlb, List.all_append, hall]; simp [digB, q1, q2], hlt⟩ (sR [] [])
  · obtain rfl : i = (l.takeWhile digB).length := by omega
    by_cases hlt : (l.takeWhile digB).length < l.length
    · have d1 : decide ((l.takeWhile digB).length < l.length) = true := decide_eq_true hlt
      rcases after_head l with ha | ⟨b, t, ha, hb⟩
      · exfalso
        have := congrArg List.length hsplit
        rw [List.length_append, ha] at this; simp at this; omega
      · have hlb : l[(l.takeWhile digB).length]? = some b := by
          have : l = l.takeWhile digB ++ b :: t := by rw [← ha]; exact hsplit.symm
          conv => lhs; rw [this]
          have e : (List.takeWhile digB (List.takeWhile digB l ++ b :: t)) = List.takeWhile digB l := by rw [← this]
          rw [e, List.getElem?_append_right (Nat.le_refl _), Nat.sub_self]; rfl
        have hg : (toB l)[(l.takeWhile digB).length]? = some b := by rw [getT]; exact hlb
        unfold digB at hb
        simp only [Bool.and_eq_false_iff] at hb
        clear hlb ha hsplit hall hil hi h
        generalize (l.takeWhile digB).length = n at *
        cases q1 : decide (48 ≤ b.toNat)
        · simp only [go_sem, toB_size, d1, hg, q1]
          refine wE ?_
          simp only [go_sem, r_decimal_digits]
        · have q2 : decide (b.toNat ≤ 57) = false := by rcases hb with hb | hb; rw [q1] at hb; cases hb; exact hb
          simp only [go_sem, toB_size, d1, hg, q1, q2]
          refine wE ?_
          simp only [go_sem, r_decimal_digits]
    · have d1 : decide ((l.takeWhile digB).length < l.length) = false := decide_eq_false hlt
      simp only [go_sem, toB_size, d1]
      refine wE ?_
      simp only [go_sem, r_decimal_digits]

theorem f_TrimPrefix (l : List UInt8) (c : UInt8) (hl : l.length ≤ 1000000) : Meets Tryz.prog E0 n_strings_TrimPrefix [Str (toB l), Str (toB [c])] [] (Str (toB (frontB c l))) [] := by
  have h0 : Meets Tryz.prog E0 n_stringslite_TrimPrefix [Str (toB l), Str (toB [c])] [] (Str (toB (frontB c l))) [] := by
    refine st0 m_stringslite_TrimPrefix ?_
    have hS := f_HasPrefix l c (by omega)
    unfold frontB
    simp only [go_sem, s_stringslite_TrimPrefix]
    refine Cl_plain hS ?_
    cases hb : headB c l
    · simp only [go_sem]
      refine wE ?_
      simp only [go_sem, r_stringslite_TrimPrefix]
      first | done | rfl
    · cases l with
      | nil => cases hb
      | cons b r =>
        have hs : (b :: r).length = r.length + 1 := rfl
        have c1 : (((1 : Nat) : Int) ≤ ((r.length + 1 : Nat) : Int)) = True := eq_true (by omega)
        have e : (toB (b :: r)).extract 1 (r.length + 1) = toB r := by rw [extT, List.take_of_length_le (by simp)]; rfl
        simp only [go_sem, toB_size, hs, c1, e]
        refine wE ?_
        simp only [go_sem, r_stringslite_TrimPrefix]
        first | done | rfl
  refine st0 m_strings_TrimPrefix ?_
  simp only [go_sem, s_strings_TrimPrefix]
  refine Cl_plain h0 ?_
  simp only [go_sem]
  refine wE ?_
  simp only [go_sem, r_strings_TrimPrefix]

theorem f_decimal_sign (l : List UInt8) (hl : l.length ≤ 1000000) : Meets Tryz.prog E0 n_decimal_sign [Str (toB l)] [] (.tp [Str (toB (dcRest l)), Bo (headB 45 l)]) [] := by
  refine st0 m_decimal_sign ?_
  have h1 := f_CutPrefix l 45 (by omega)
  have h2 := f_TrimPrefix l 43 hl
  have e45 : bs [45] = toB [45] := rfl
  have e43 : bs [43] = toB [43] := rfl
  unfold dcRest
  simp only [go_sem, s_decimal_sign, e45]
  refine Cl_plain h1 ?_
  unfold frontB
  cases hb : headB 45 l
  · rw [if_neg (by decide)]
    simp only [go_sem, e43]
    refine Cl_plain h2 ?_
    simp only [go_sem]
    refine wE ?_
    simp only [go_sem, r_decimal_sign]
    first | done | rfl
  · rw [if_pos rfl]
    simp only [go_sem]
    refine wE ?_
    simp only [go_sem, r_decimal_sign]
    first | done | rfl

end Go.Proofs.YtaeleljlpcjcdaaGreatDoor
namespace Go.Proofs.YtaeleljlpcjcdaaGreatDoor
open Go Go.Sx

theorem tw_len (r : List UInt8) : (r.takeWhile digB).length ≤ r.length := by
  have := congrArg List.length (List.takeWhile_append_dropWhile (p := digB) (l := r))
  rw [List.length_append] at this; omega

theorem tw_cut (r : List UInt8) : (toB r).extract 0 (r.takeWhile digB).length = toB (r.takeWhile digB) ∧ (toB r).extract (r.takeWhile digB).length r.length = toB (r.dropWhile digB) := by
  have h : r.takeWhile digB ++ r.dropWhile digB = r := List.takeWhile_append_dropWhile
  refine ⟨?_, ?_⟩
  · rw [extT, List.drop_zero]
    congr 1
    conv => lhs; arg 2; rw [← h]
    rw [List.take_left' rfl]
  · rw [extT, List.take_length]
    congr 1
    conv => lhs; arg 2; rw [← h]
    rw [List.drop_left' rfl]

theorem f_decimal_split (r : List UInt8) (hl : r.length ≤ 1000) : Meets Tryz.prog E0 n_decimal_split [Str (toB r)] [] (.tp [Str (toB (dcWhole r)), Str (toB (dcPart r)), Bo (dcOk r)]) [] := by
  refine st0 m_decimal_split ?_
  have h1 := f_decimal_digits r (by omega)
  obtain ⟨x1, x2⟩ := tw_cut r
  have l1 := tw_len r
  have c0 : ((0 : Int) ≤ ((r.takeWhile digB).length : Int)) = True := eq_true (by omega)
  have c1 : (((r.takeWhile digB).length : Int) ≤ (r.length : Int)) = True := eq_true (by omega)
  have hC := f_CutPrefix (r.dropWhile digB) 46 (by
    have := congrArg List.length (List.takeWhile_append_dropWhile (p := digB) (l := r))
    rw [List.length_append] at this; omega)
  have e46 : bs [46] = toB [46] := rfl
  have e0 : bs [] = toB [] := rfl
  have hdl : (r.dropWhile digB).length ≤ r.length := by
    have := congrArg List.length (List.takeWhile_append_dropWhile (p := digB) (l := r))
    rw [List.length_append] at this; omega
  have hbe : ∀ l : List UInt8, (l == []) = l.isEmpty := fun l => by cases l <;> rfl
  unfold dcOk dcEnd dcPart
  rw [show dcAfter r = r.dropWhile digB from rfl, show dcWhole r = r.takeWhile digB from rfl]
  generalize r.dropWhile digB = a at *
  generalize r.takeWhile digB = w at *
  simp only [go_sem, s_decimal_split]
  refine Cl_plain h1 ?_
  simp only [go_sem, toB_size, c0, c1, x1, x2, e46]
  refine Cl_plain hC ?_
  unfold frontB
  cases hb : headB 46 a
  · simp only [Bool.false_eq_true, if_false, List.append_nil]
    have q1 : binStr .eql (toB a) (toB []) = some (.bool a.isEmpty) := by rw [eqT, hbe]
    have q2 : binStr .add (toB w) (toB []) = some (.string (toB w)) := by have := addT w [] (by simp; omega); rwa [List.append_nil] at this
    have q3 : binStr .neq (toB w) (toB []) = some (.bool (!w.isEmpty)) := by rw [neT, hbe]
    simp only [go_sem]
    cases ha : a.isEmpty
    · rw [ha] at q1
      simp only [go_sem, e0, q1]
      refine wE ?_
      simp only [go_sem, r_decimal_split]
      first | done | rfl
    · rw [ha] at q1
      simp only [go_sem, e0, q1, q2, q3]
      refine wE ?_
      simp only [go_sem, r_decimal_split]
      first | done | rfl
  · simp only [if_true]
    have htl : a.tail.length ≤ r.length := by rw [List.length_tail]; omega
    have h2 := f_decimal_digits a.tail (by omega)
    obtain ⟨y1, y2⟩ := tw_cut a.tail
    have l2 := tw_len a.tail
    have c2 : ((0 : Int) ≤ ((a.tail.takeWhile digB).length : Int)) = True := eq_true (by omega)
    have c3 : (((a.tail.takeWhile digB).length : Int) ≤ (a.tail.length : Int)) = True := eq_true (by omega)
    generalize a.tail = t at *
    generalize t.takeWhile digB = p at *
    generalize t.dropWhile digB = z at *
    have q1 : binStr .eql (toB z) (toB []) = some (.bool z.isEmpty) := by rw [eqT, hbe]
    have q2 : binStr .add (toB w) (toB p) = some (.string (toB (w ++ p))) := addT w p (by omega)
    have q3 : binStr .neq (toB (w ++ p)) (toB []) = some (.bool (!(w ++ p).isEmpty)) := by rw [neT, hbe]
    simp only [go_sem]
    refine Cl_plain h2 ?_
    simp only [go_sem, toB_size, c2, c3, y1, y2, e0]
    cases ha : z.isEmpty
    · rw [ha] at q1
      simp only [go_sem, toB_size, c2, c3, y1, y2, e0, q1]
      refine wE ?_
      simp only [go_sem, r_decimal_split]
      first | done | rfl
    · rw [ha] at q1
      simp only [go_sem, toB_size, c2, c3, y1, y2, e0, q1, q2, q3]
      refine wE ?_
      simp only [go_sem, r_decimal_split]
      first | done | rfl

theorem six_len (p : List UInt8) : (dcSix p).length = 6 := by unfold dcSix; simp

theorem dc_digits (r : List UInt8) : (dcWhole r ++ dcSix (dcPart r)).all digB = true := by
  rw [List.all_append, Bool.and_eq_true]
  refine ⟨tw_all r, ?_⟩
  have hp : (dcPart r).all digB = true := by
    unfold dcPart; split
    · exact tw_all _
    · rfl
  unfold dcSix
  rw [List.all_eq_true]
  intro b hb
  rcases List.mem_append.1 (List.mem_of_mem_take hb) with h | h
  · exact List.all_eq_true.1 hp b h
  · have : b = 48 := by simpa using h
    rw [this]; decide

theorem rest_len (l : List UInt8) : (dcRest l).length ≤ l.length := by
  unfold dcRest
  split
  · rw [List.length_tail]; omega
  · split
    · rw [List.length_tail]; omega
    · exact Nat.le_refl _

theorem part_len (r : List UInt8) : (dcWhole r).length ≤ r.length ∧ (dcPart r).length ≤ r.length := by
  refine ⟨tw_len r, ?_⟩
  have hdl : (r.dropWhile digB).length ≤ r.length := by
    have := congrArg List.length (List.takeWhile_append_dropWhile (p := digB) (l := r))
    rw [List.length_append] at this; omega
  unfold dcPart dcAfter
  split
  · have := tw_len (r.dropWhile digB).tail
    rw [List.length_tail] at this; omega
  · simp

set_option maxHeartbeats 1000000 in
theorem f_decimal_Parse (l : List UInt8) (hl : l.length ≤ 1000000) : Meets Tryz.prog E0 n_decimal_Parse [Str (toB l)] [] (.tp [.ag [Bo false, I (dcParse l).1], I (dcParse l).2]) [] := by
  refine st0 m_decimal_Parse ?_
  unfold dcParse
  by_cases hlong : 64 < l.length
  · have d0 : decide ((64 : Int) < (l.length : Int)) = true := decide_eq_true (by omega)
    rw [if_pos hlong]
    simp only [go_sem, s_decimal_Parse, toB_size, d0]
    refine wE ?_
    simp only [go_sem, r_decimal_Parse]
  have d0 : decide ((64 : Int) < (l.length : Int)) = false := decide_eq_false (by omega)
  rw [if_neg hlong]
  have h1 := f_decimal_sign l hl
  have hrl := rest_len l
  have h2 := f_decimal_split (dcRest l) (by omega)
  obtain ⟨wl, pl⟩ := part_len (dcRest l)
  have hdg := dc_digits (dcRest l)
  unfold dcVal
  generalize dcRest l = r at *
  cases hok : dcOk r
  · rw [if_pos rfl]
    rw [hok] at h2
    simp only [go_sem, s_decimal_Parse, toB_size, d0]
    refine Cl_plain h1 ?_
    simp only [go_sem]
    refine Cl_plain h2 ?_
    simp only [go_sem]
    refine wE ?_
    simp only [go_sem, r_decimal_Parse]
  · rw [if_neg (by decide)]
    rw [hok] at h2
    clear hok
    generalize dcWhole r = w at *
    generalize dcPart r = p at *
    generalize headB 45 l = sg at *
    have hsl := six_len p
    have a0 : bs [48, 48, 48, 48, 48, 48] = toB [48, 48, 48, 48, 48, 48] := rfl
    have a1 : binStr .add (toB p) (toB [48, 48, 48, 48, 48, 48]) = some (.string (toB (p ++ [48, 48, 48, 48, 48, 48]))) := addT _ _ (by simp; omega)
    have a2 : (toB (p ++ [48, 48, 48, 48, 48, 48])).extract 0 6 = toB (dcSix p) := by rw [extT, List.drop_zero]; rfl
    have a3 : bs [48] = toB [48] := rfl
    have a4 : binStr .add (toB [48]) (toB w) = some (.string (toB ([48] ++ w))) := addT _ _ (by simp; omega)
    have a5 : binStr .add (toB ([48] ++ w)) (toB (dcSix p)) = some (.string (toB ([48] ++ w ++ dcSix p))) := addT _ _ (by simp [hsl]; omega)
    have c6 : ((6 : Int) ≤ ((p ++ [48, 48, 48, 48, 48, 48]).length : Int)) = True := eq_true (by simp; omega)
    have c6' : ((6 : Int) ≤ ((p.length + 6 : Nat) : Int)) = True := eq_true (by omega)
    have hpn := parse_nought (w ++ dcSix p) hdg
    have hcat : [48] ++ w ++ dcSix p = 48 :: (w ++ dcSix p) := by simp
    have hlen : (48 :: (w ++ dcSix p)).length ≤ 1000000 := by simp [hsl]; omega
    rw [hcat, show [48] ++ w = 48 :: w from rfl] at a5
    rw [show [48] ++ w = 48 :: w from rfl] at a4
    generalize dcSix p = q at *
    generalize rtVal 0 (w ++ q) = N at *
    have hub : (dcUp p).toNat ≤ 1 := by cases dcUp p <;> decide
    have hup : (decide ((6 : Int) < (p.length : Int)) = false ∧ dcUp p = false) ∨ (decide ((6 : Int) < (p.length : Int)) = true ∧ ∃ b, (toB p)[6]? = some b ∧ dcUp p = decide (53 ≤ b.toNat)) := by
      by_cases h6 : 6 < p.length
      · obtain ⟨b, hb⟩ := get_of_lt h6
        refine .inr ⟨decide_eq_true (by omega), b, by rw [getT]; exact hb, ?_⟩
        unfold dcUp; rw [hb]
      · refine .inl ⟨decide_eq_false (by omega), ?_⟩
        unfold dcUp; rw [List.getElem?_eq_none (by omega)]
    have key : ∀ u : Bool, dcUp p = u → (9223372036854775808 ≤ N ∧ 9223372036854775808 ≤ N + u.toNat) ∨ (N < 9223372036854775808 ∧ u = true ∧ N = 9223372036854775808 - 1 ∧ 9223372036854775808 ≤ N + u.toNat) ∨ (N < 9223372036854775808 ∧ u = true ∧ N ≠ 9223372036854775808 - 1 ∧ ¬ 9223372036854775808 ≤ N + u.toNat) ∨ (N < 9223372036854775808 ∧ u = false ∧ ¬ 9223372036854775808 ≤ N + u.toNat) := by
      intro u _
      cases u
      · by_cases h : N < 9223372036854775808
        · exact .inr (.inr (.inr ⟨h, rfl, by simp; omega⟩))
        · exact .inl ⟨by omega, by simp; omega⟩
      · by_cases h : N < 9223372036854775808
        · by_cases h2 : N = 9223372036854775808 - 1
          · exact .inr (.inl ⟨h, rfl, h2, by simp; omega⟩)
          · exact .inr (.inr (.inl ⟨h, rfl, h2, by simp; omega⟩))
        · exact .inl ⟨by omega, by simp; omega⟩
    have en1 : ∀ n : Nat, n < 9223372036854775808 → IntKind.i64.wrap (0 - (n : Int)) = -(n : Int) := fun n h => by rw [wrap_i64_of (by omega) (by omega)]; omega
    have btt : (true == true) = true := rfl
    have bft : (false == true) = false := rfl
    have hup2 : (decide ((6 : Int) < (p.length : Int)) = false ∧ dcUp p = false) ∨ (decide ((6 : Int) < (p.length : Int)) = true ∧ ∃ b u, (toB p)[6]? = some b ∧ decide (53 ≤ b.toNat) = u ∧ dcUp p = u) := by
      rcases hup with h | ⟨h1, b, h2, h3⟩
      · exact .inl h
      · exact .inr ⟨h1, b, _, h2, rfl, h3⟩
    clear hup
    rcases hup2 with ⟨u1, u2⟩ | ⟨u1, b, u, u3, u4, u2⟩
    case' inl =>
      have key := key _ u2
      rw [u2]
      simp only [go_sem, s_decimal_Parse, toB_size, d0]
      refine Cl_plain h1 ?_
      simp only [go_sem]
      refine Cl_plain h2 ?_
      simp only [go_sem, toB_size, u1, a0, a1, a2, a3, a4, a5, c6, c6']
    case' inr =>
      have key := key _ u2
      rw [u2]
      simp only [go_sem, s_decimal_Parse, toB_size, d0]
      refine Cl_plain h1 ?_
      simp only [go_sem]
      refine Cl_plain h2 ?_
      simp only [go_sem, toB_size, u1, u3, u4, a0, a1, a2, a3, a4, a5, c6, c6']
    all_goals
      rcases key with ⟨k1, k2⟩ | ⟨k1, k3, k4, k2⟩ | ⟨k1, k3, k4, k2⟩ | ⟨k1, k3, k2⟩
      · rw [if_neg (by omega)] at hpn
        rw [if_pos k2]
        refine Cl_plain (f_ParseInt_range _ hlen hpn) ?_
        simp only [go_sem, btt, bft]
        refine wE ?_
        simp only [go_sem, r_decimal_Parse]
      · first
          | (exfalso; exact Bool.noConfusion k3)
          | (subst k3
             rw [if_pos k1] at hpn
             rw [if_pos k2]
             have d7 : decide ((N : Int) = 9223372036854775807) = true := decide_eq_true (by omega)
             refine Cl_plain (f_ParseInt_ok _ _ hlen hpn) ?_
             simp only [go_sem, d7, btt, bft]
             refine wE ?_
             simp only [go_sem, r_decimal_Parse])
      · first
          | (exfalso; exact Bool.noConfusion k3)
          | (subst k3
             rw [if_pos k1] at hpn
             rw [if_neg k2]
             have d7 : decide ((N : Int) = 9223372036854775807) = false := decide_eq_false (by omega)
             have en2 : IntKind.i64.wrap ((N : Int) + 1) = ((N + 1 : Nat) : Int) := by rw [wrap_i64_of (by omega) (by omega)]; omega
             have en3 := en1 (N + 1) (by omega)
             rw [Bool.toNat_true]
             refine Cl_plain (f_ParseInt_ok _ _ hlen hpn) ?_
             cases sg
             · simp only [go_sem, d7, en2, btt, bft]
               refine wE ?_
               simp only [go_sem, r_decimal_Parse]
             · simp only [go_sem, d7, en2, en3, btt, bft]
               refine wE ?_
               simp only [go_sem, r_decimal_Parse])
      · try subst k3
        rw [if_pos k1] at hpn
        rw [if_neg k2]
        have en3 := en1 N k1
        rw [Bool.toNat_false, Nat.add_zero]
        refine Cl_plain (f_ParseInt_ok _ _ hlen hpn) ?_
        cases sg
        · simp only [go_sem, btt, bft]
          refine wE ?_
          simp only [go_sem, r_decimal_Parse]
        · simp only [go_sem, en3, btt, bft]
          refine wE ?_
          simp only [go_sem, r_decimal_Parse]

end Go.Proofs.YtaeleljlpcjcdaaGreatDoor
namespace Go.Proofs.YtaeleljlpcjcdaaGreatDoor
open Go Go.Sx

theorem f_ref03_digit (c : Nat) (hc : c < 256) : Meets Tryz.prog E0 n_ref03_digit [B8 c] [] (Bo (decide (48 ≤ c) && decide (c ≤ 57))) [] := by
  refine st0 m_ref03_digit ?_
  cases h1 : decide (48 ≤ c)
  · simp only [go_sem, s_ref03_digit, h1]
    refine wE ?_
    simp only [go_sem, r_ref03_digit]
  · simp only [go_sem, s_ref03_digit, h1]
    refine wE ?_
    simp only [go_sem, r_ref03_digit]

theorem ten_le {n : Nat} {far : Bool} {d : Nat} (h : n ≤ 11529215046068469769) (hd : d ≤ 9) : (dcTen n far d).1 ≤ 11529215046068469769 := by
  unfold dcTen; split
  · exact h
  · simp only; omega

set_option maxHeartbeats 2000000 in
theorem ref03_main (r : List UInt8) (sg : Bool) (hr : r.length ≤ 64) (x1 x2 x3 : AV) (env : List (Nat × AV)) (Q : Exit → St → Prop) (k : List Kt)
    (e0 : lk 0 env = Str (toB r)) (e2 : lk 2 env = .ptr 100 0) (e4 : lk 4 env = Bo sg) (e5 : lk 5 env = I 0) (e6 : lk 6 env = I 0) (e7 : lk 7 env = I 0) (e8 : lk 8 env = U (0 : Nat)) (e9 : lk 9 env = Bo false) (e10 : lk 10 env = Bo false) (e11 : lk 11 env = I 0)
    (hend : ∀ env sto V E, lk 3 env = I E → lk 2 env = .ptr 100 0 → ls 100 sto = some (.box [Bo false, I V]) → (V, E) = (if dcOk r = false then (0, 2) else if 9223372036854775808 ≤ dcVal r then (0, 3) else (if sg then -(dcVal r : Int) else dcVal r, 0)) → B Tryz.prog E0 [] Q k .ret env sto) :
    W Tryz.prog E0 [] Q (.loop s_ref03_Parse_b0) (.blk 0 :: .code s_ref03_Parse_t3 :: k) env [(100, .box [Bo false, I 0])] := by
  refine W_loop (fun s : Nat × DcS => r.length - s.1) (fun s => s.1 ≤ r.length ∧ s.2.dg ≤ s.1 ∧ s.2.pt ≤ s.1 ∧ s.2.bh ≤ s.1 ∧ s.2.n ≤ 11529215046068469769 ∧ dcRun s.2 (r.drop s.1) = dcRun dc0 r)
    (fun s => [(0, Str (toB r)), (2, .ptr 100 0), (4, Bo sg), (5, I s.2.dg), (6, I s.2.pt), (7, I s.2.bh), (8, U (s.2.n : Nat)), (9, Bo s.2.far), (10, Bo s.2.up), (11, I s.1)])
    (fun _ => [(100, .box [Bo false, I 0])]) (0, dc0) ⟨Nat.zero_le _, Nat.le_refl _, Nat.le_refl _, Nat.le_refl _, by decide, rfl⟩ ?_ ?_
  · refine subL [] [] ?_ ?_ ?_ ?_ ?_ ?_
    · simp only [envS, e0, e2, e4, e5, e6, e7, e8, e9, e10, e11, dc0]
      simp [wkV, wkL, AV.ids, idsL, keysOf, ren, stoOf]
    · simp [stoS, ls_cons, ls_nil, wkV, wkL, wkO, AV.ids, Ob.ids, idsL, keysOf, ren, AV.one, stoOf]
    · simp [keysOf, ren]
    · simp [stoOf, keysOf, ren]
    · simp [keysOf, ren]
    · simp [keysOf, ren]
  rintro ⟨i, ⟨dg, pt, bh, n, far, up⟩⟩ ⟨hi, h1, h2, h3, h4, hrun⟩
  simp only at hi h1 h2 h3 h4 hrun ⊢
  have hdc := dc_run r
  by_cases hlt : i < r.length
  · have d1 : decide (i < r.length) = true := decide_eq_true hlt
    obtain ⟨b, hb⟩ := get_of_lt hlt
    have hg : (toB r)[i]? = some b := by rw [getT]; exact hb
    have ei : IntKind.i64.wrap ((i : Int) + 1) = ((i + 1 : Nat) : Int) := by rw [wrap_i64_of (by omega) (by omega)]; omega
    rw [drop_get hb, dcRun] at hrun
    have hbl := u8_lt b
    by_cases h46 : b.toNat = 46
    · have d2 : decide (b.toNat = 46) = true := decide_eq_true h46
      have hs : dcStep ⟨dg, pt, bh, n, far, up⟩ b = some ⟨dg, pt + 1, bh, n, far, up⟩ := by unfold dcStep; rw [if_pos h46]
      rw [hs] at hrun
      have ep : IntKind.i64.wrap ((pt : Int) + 1) = ((pt + 1 : Nat) : Int) := by rw [wrap_i64_of (by omega) (by omega)]; omega
      simp only [go_sem, s_ref03_Parse_b0, toB_size, d1, hg, d2, ep, ei]
      exact rd_of (i + 1, ⟨dg, pt + 1, bh, n, far, up⟩) (by first | omega | (simp only; omega)) ⟨hlt, by simp only; omega, by simp only; omega, by simp only; omega, h4, hrun⟩ (sR [] [])
    have d2 : decide (b.toNat = 46) = false := decide_eq_false h46
    have hdig := f_ref03_digit b.toNat hbl
    rw [show (decide (48 ≤ b.toNat) && decide (b.toNat ≤ 57)) = digB b from rfl] at hdig
    cases hdb : digB b
    · rw [hdb] at hdig
      have hs : dcStep ⟨dg, pt, bh, n, far, up⟩ b = none := by unfold dcStep; rw [if_neg h46, hdb, if_pos rfl]
      rw [hs] at hrun
      have hok : dcOk r = false := by
        rcases hdc with ⟨h, _⟩ | ⟨_, s, h, _⟩
        · exact h
        · rw [← hrun] at h; cases h
      rw [hok, if_pos rfl] at hend
      simp only [go_sem, s_ref03_Parse_b0, toB_size, d1, hg, d2]
      refine Cl_plain hdig ?_
      simp only [go_sem]
      refine hend _ _ 0 2 ?_ ?_ ?_ rfl
      all_goals simp [lk_cons, ls_cons]
    · rw [hdb] at hdig
      obtain ⟨_, hd9⟩ := dig_le hdb
      have hge : 48 ≤ b.toNat := by unfold digB at hdb; simp only [Bool.and_eq_true, decide_eq_true_eq] at hdb; exact hdb.1
      have edg : IntKind.i64.wrap ((dg : Int) + 1) = ((dg + 1 : Nat) : Int) := by rw [wrap_i64_of (by omega) (by omega)]; omega
      have ebh : IntKind.i64.wrap ((bh : Int) + 1) = ((bh + 1 : Nat) : Int) := by rw [wrap_i64_of (by omega) (by omega)]; omega
      have esub : (b.toNat + 256 - 48 % 256) % 256 = b.toNat - 48 := by omega
      have ecv : IntKind.u64.wrap ((b.toNat - 48 : Nat) : Int) = ((b.toNat - 48 : Nat) : Int) := by rw [wrap_u64]; omega
      obtain ⟨bh', hbh, hbl'⟩ : ∃ bh', (if 0 < pt then bh + 1 else bh) = bh' ∧ bh' ≤ i + 1 := ⟨_, rfl, by split <;> omega⟩
      have hs : dcStep ⟨dg, pt, bh, n, far, up⟩ b = if 6 < bh' then some ⟨dg + 1, pt, bh', n, far, if bh' = 7 then decide (53 ≤ b.toNat) else up⟩ else some ⟨dg + 1, pt, bh', (dcTen n far (b.toNat - 48)).1, (dcTen n far (b.toNat - 48)).2, if bh' = 7 then decide (53 ≤ b.toNat) else up⟩ := by
        unfold dcStep; rw [if_neg h46, hdb, if_neg (by decide)]; simp only [hbh]
      rw [hs] at hrun
      have fin : ∀ st', dcStep ⟨dg, pt, bh, n, far, up⟩ b = some st' → dcRun st' (r.drop (i + 1)) = dcRun dc0 r := fun st' h => by rw [hs] at h; rw [h] at hrun; exact hrun
      rw [hs] at fin
      clear hrun
      by_cases hpt : 0 < pt
      case' pos =>
        have d3 : decide ((0 : Int) < (pt : Int)) = true := decide_eq_true (by omega)
        rw [if_pos hpt] at hbh
        rw [hbh] at ebh
        simp only [go_sem, s_ref03_Parse_b0, toB_size, d1, hg, d2]
        refine Cl_plain hdig ?_
        simp only [go_sem, edg, d3, ebh]
      case' neg =>
        have d3 : decide ((0 : Int) < (pt : Int)) = false := decide_eq_false (by omega)
        rw [if_neg hpt] at hbh
        rw [hbh]
        simp only [go_sem, s_ref03_Parse_b0, toB_size, d1, hg, d2]
        refine Cl_plain hdig ?_
        simp only [go_sem, edg, d3]
      all_goals
        clear hbh hs
        by_cases h7 : bh' = 7
        · have q7 : decide ((bh' : Int) = 7) = true := decide_eq_true (by omega)
          have q6 : decide ((6 : Int) < (bh' : Int)) = true := decide_eq_true (by omega)
          have fin := fin _ (if_pos (by omega))
          rw [if_pos h7] at fin
          simp only [go_sem, q7, toB_size, hg, q6, ei]
          exact rd_of (i + 1, ⟨dg + 1, pt, bh', n, far, decide (53 ≤ b.toNat)⟩) (by first | omega | (simp only; omega)) ⟨hlt, by simp only; omega, by simp only; omega, hbl', h4, fin⟩ (sR [] [])
        · have q7 : decide ((bh' : Int) = 7) = false := decide_eq_false (by omega)
          rw [if_neg h7] at fin
          by_cases h6 : 6 < bh'
          · have q6 : decide ((6 : Int) < (bh' : Int)) = true := decide_eq_true (by omega)
            have fin := fin _ (if_pos h6)
            simp only [go_sem, q7, toB_size, hg, q6, ei]
            exact rd_of (i + 1, ⟨dg + 1, pt, bh', n, far, up⟩) (by first | omega | (simp only; omega)) ⟨hlt, by simp only; omega, by simp only; omega, hbl', h4, fin⟩ (sR [] [])
          · have q6 : decide ((6 : Int) < (bh' : Int)) = false := decide_eq_false (by omega)
            have fin := fin _ (if_neg h6)
            have hb9 := ten_le (far := far) h4 hd9
            unfold dcTen at fin hb9
            by_cases hn : 1152921504606846976 < n
            · have qn : decide (1152921504606846976 < n) = true := decide_eq_true hn
              rw [if_pos hn] at fin
              simp only [go_sem, q7, toB_size, hg, q6, qn, ei]
              exact rd_of (i + 1, ⟨dg + 1, pt, bh', n, true, up⟩) (by first | omega | (simp only; omega)) ⟨hlt, by simp only; omega, by simp only; omega, hbl', h4, fin⟩ (sR [] [])
            · have qn : decide (1152921504606846976 < n) = false := decide_eq_false hn
              rw [if_neg hn] at fin hb9
              have m1 : n * 10 % 18446744073709551616 = n * 10 := Nat.mod_eq_of_lt (by omega)
              have m2 : (n * 10 + (b.toNat - 48)) % 18446744073709551616 = n * 10 + (b.toNat - 48) := Nat.mod_eq_of_lt (by simp only at hb9; omega)
              simp only [go_sem, q7, toB_size, hg, q6, qn, esub, ecv, m1, m2, ei]
              exact rd_of (i + 1, ⟨dg + 1, pt, bh', n * 10 + (b.toNat - 48), far, up⟩) (by first | omega | (simp only; omega)) ⟨hlt, by simp only; omega, by simp only; omega, hbl', hb9, fin⟩ (sR [] [])
  · obtain rfl : i = r.length := by omega
    have d1 : decide (r.length < r.length) = false := decide_eq_false (by omega)
    rw [List.drop_length, dcRun] at hrun
    rcases hdc with ⟨hok, hd⟩ | ⟨hok, s, hs1, hs2, hs3, hs4, hs5⟩
    · rw [hok, if_pos rfl] at hend
      have hbad : dg = 0 ∨ 1 < pt := by
        rcases hd with hd | ⟨s, hd, hs⟩
        · rw [hd] at hrun; cases hrun
        · rw [hd] at hrun; injection hrun with hrun; rw [← hrun] at hs; exact hs
      by_cases q : dg = 0
      · have q1 : decide ((dg : Int) = 0) = true := decide_eq_true (by omega)
        simp only [go_sem, s_ref03_Parse_b0, s_ref03_Parse_t3, toB_size, d1, q1]
        refine hend _ _ 0 2 ?_ ?_ ?_ rfl
        all_goals simp [lk_cons, ls_cons]
      · have q1 : decide ((dg : Int) = 0) = false := decide_eq_false (by omega)
        have q2 : decide ((1 : Int) < (pt : Int)) = true := decide_eq_true (by omega)
        simp only [go_sem, s_ref03_Parse_b0, s_ref03_Parse_t3, toB_size, d1, q1, q2]
        refine hend _ _ 0 2 ?_ ?_ ?_ rfl
        all_goals simp [lk_cons, ls_cons]
    · rw [hok, if_neg (by decide)] at hend
      rw [hs1] at hrun
      injection hrun with hrun
      subst hrun
      simp only at hs2 hs3 hs4 hs5
      have q1 : decide ((dg : Int) = 0) = false := decide_eq_false (by omega)
      have q2 : decide ((1 : Int) < (pt : Int)) = false := decide_eq_false (by omega)
      have hbig := hs5
      unfold dcVal at hend
      rw [← hs4] at hend
      generalize rtVal 0 (dcWhole r ++ dcSix (dcPart r)) = N at *
      simp only [go_sem, s_ref03_Parse_b0, s_ref03_Parse_t3, toB_size, d1, q1, q2]
      refine W_loop (fun s : Nat × Nat × Bool => 6 - s.1) (fun s => bh ≤ s.1 ∧ s.1 ≤ 64 ∧ s.2.1 ≤ 11529215046068469769 ∧ dcPad (6 - s.1) (s.2.1, s.2.2) = dcPad (6 - bh) (n, far))
        (fun s => [(2, .ptr 100 0), (4, Bo sg), (8, U (s.2.1 : Nat)), (9, Bo s.2.2), (10, Bo up), (12, I s.1)])
        (fun _ => [(100, .box [Bo false, I 0])]) (bh, n, far) ⟨Nat.le_refl _, by simp only; omega, h4, rfl⟩ (sR [] []) ?_
      rintro ⟨j, m, fr⟩ ⟨hj, hj64, hm, hpad⟩
      simp only at hj hj64 hm hpad ⊢
      by_cases hj6 : j < 6
      · have dj : decide ((j : Int) < 6) = true := decide_eq_true (by omega)
        have ej : IntKind.i64.wrap ((j : Int) + 1) = ((j + 1 : Nat) : Int) := by rw [wrap_i64_of (by omega) (by omega)]; omega
        have hm9 := ten_le (far := fr) (d := 0) hm (by decide)
        obtain ⟨t, ht⟩ : ∃ t, 6 - j = t + 1 := ⟨5 - j, by omega⟩
        have ht2 : 6 - (j + 1) = t := by omega
        rw [ht, dcPad] at hpad
        simp only at hpad
        unfold dcTen at hpad hm9
        by_cases hn : 1152921504606846976 < m
        · have qn : decide (1152921504606846976 < m) = true := decide_eq_true hn
          rw [if_pos hn] at hpad
          simp only [go_sem, s_ref03_Parse_b1, dj, qn, ej]
          exact rd_of (j + 1, m, true) (by first | omega | (simp only; omega)) ⟨by simp only; omega, by simp only; omega, hm, by simp only [ht2]; exact hpad⟩ (sR [] [])
        · have qn : decide (1152921504606846976 < m) = false := decide_eq_false hn
          rw [if_neg hn, Nat.add_zero] at hpad hm9
          have m1 : m * 10 % 18446744073709551616 = m * 10 := Nat.mod_eq_of_lt (by omega)
          simp only [go_sem, s_ref03_Parse_b1, dj, qn, m1, ej]
          exact rd_of (j + 1, m * 10, fr) (by first | omega | (simp only; omega)) ⟨by simp only; omega, by simp only; omega, hm9, by simp only [ht2]; exact hpad⟩ (sR [] [])
      · have dj : decide ((j : Int) < 6) = false := decide_eq_false (by omega)
        rw [show 6 - j = 0 by omega, dcPad] at hpad
        rw [← hpad] at hs5
        simp only at hs5
        obtain ⟨f1, f2, f3⟩ := rep_far up hs5
        have m1 : (m + 1) % 18446744073709551616 = m + 1 := Nat.mod_eq_of_lt (by cases up <;> simp at f3 <;> omega)
        have e1 : ∀ x : Nat, x < 9223372036854775808 → IntKind.i64.wrap (x : Int) = (x : Int) := fun x h => wrap_i64_of (by omega) (by omega)
        have e3 : ∀ x : Nat, x < 9223372036854775808 → IntKind.i64.wrap (0 - (x : Int)) = -(x : Int) := fun x h => by rw [wrap_i64_of (by omega) (by omega)]; omega
        have hbb : 9223372036854775808 - 1 = 9223372036854775807 := rfl
        rw [hbb] at f1
        by_cases hM : 9223372036854775808 ≤ N + up.toNat
        · rw [decide_eq_true hM] at f1
          rw [if_pos hM] at hend
          cases fr
          · rw [Bool.false_or] at f1
            cases up
            · rw [Bool.toNat_false, Nat.add_zero] at f1
              simp only [go_sem, s_ref03_Parse_b1, s_ref03_Parse_t2, dj, f1]
              refine hend _ _ 0 3 ?_ ?_ ?_ rfl
              all_goals simp [lk_cons, ls_cons]
            · rw [Bool.toNat_true] at f1
              simp only [go_sem, s_ref03_Parse_b1, s_ref03_Parse_t2, dj, m1, f1]
              refine hend _ _ 0 3 ?_ ?_ ?_ rfl
              all_goals simp [lk_cons, ls_cons]
          · cases up
            · simp only [go_sem, s_ref03_Parse_b1, s_ref03_Parse_t2, dj]
              refine hend _ _ 0 3 ?_ ?_ ?_ rfl
              all_goals simp [lk_cons, ls_cons]
            · simp only [go_sem, s_ref03_Parse_b1, s_ref03_Parse_t2, dj, m1]
              refine hend _ _ 0 3 ?_ ?_ ?_ rfl
              all_goals simp [lk_cons, ls_cons]
        · rw [decide_eq_false hM] at f1
          rw [if_neg hM] at hend
          obtain ⟨rfl, rfl⟩ := f2.resolve_left hM
          rw [Bool.false_or] at f1
          cases up
          · rw [Bool.toNat_false, Nat.add_zero] at f1 hM hend
            cases sg
            · simp only [go_sem, s_ref03_Parse_b1, s_ref03_Parse_t2, dj, f1, e1 m (by omega)]
              refine hend _ _ _ 0 ?_ ?_ ?_ rfl
              all_goals simp [lk_cons, ls_cons]
            · simp only [go_sem, s_ref03_Parse_b1, s_ref03_Parse_t2, dj, f1, e1 m (by omega), e3 m (by omega)]
              refine hend _ _ _ 0 ?_ ?_ ?_ rfl
              all_goals simp [lk_cons, ls_cons]
          · rw [Bool.toNat_true] at f1 hM hend
            cases sg
            · simp only [go_sem, s_ref03_Parse_b1, s_ref03_Parse_t2, dj, m1, f1, e1 (m + 1) (by omega)]
              refine hend _ _ _ 0 ?_ ?_ ?_ rfl
              all_goals simp [lk_cons, ls_cons]
            · simp only [go_sem, s_ref03_Parse_b1, s_ref03_Parse_t2, dj, m1, f1, e1 (m + 1) (by omega), e3 (m + 1) (by omega)]
              refine hend _ _ _ 0 ?_ ?_ ?_ rfl
              all_goals simp [lk_cons, ls_cons]

end Go.Proofs.YtaeleljlpcjcdaaGreatDoor
namespace Go.Proofs.YtaeleljlpcjcdaaGreatDoor
open Go Go.Sx

theorem f_ref03_Parse (l : List UInt8) : Meets Tryz.prog E0 n_ref03_Parse [Str (toB l)] [] (.tp [.ag [Bo false, I (dcParse l).1], I (dcParse l).2]) [] := by
  refine st0 m_ref03_Parse ?_
  unfold dcParse
  by_cases hlong : 64 < l.length
  · have d0 : decide ((64 : Int) < (l.length : Int)) = true := decide_eq_true (by omega)
    rw [if_pos hlong]
    simp only [go_sem, s_ref03_Parse, toB_size, d0]
    refine wE ?_
    simp only [go_sem, r_ref03_Parse]
  have d0 : decide ((64 : Int) < (l.length : Int)) = false := decide_eq_false (by omega)
  rw [if_neg hlong]
  have hrl := rest_len l
  have fin : ∀ (sg : Bool) (V E : Int), headB 45 l = sg → (V, E) = (if dcOk (dcRest l) = false then (0, 2) else if 9223372036854775808 ≤ dcVal (dcRest l) then (0, 3) else (if sg then -(dcVal (dcRest l) : Int) else dcVal (dcRest l), 0)) →
      ((if dcOk (dcRest l) = false then ((0, 2) : Int × Int) else if 9223372036854775808 ≤ dcVal (dcRest l) then (0, 3) else (if headB 45 l then -(dcVal (dcRest l) : Int) else dcVal (dcRest l), 0))) = (V, E) := fun sg V E h1 h2 => by rw [h1, h2]
  have ends : ∀ (sg : Bool) env sto (V E : Int), headB 45 l = sg → lk 3 env = I E → lk 2 env = .ptr 100 0 → ls 100 sto = some (.box [Bo false, I V]) → (V, E) = (if dcOk (dcRest l) = false then (0, 2) else if 9223372036854775808 ≤ dcVal (dcRest l) then (0, 3) else (if sg then -(dcVal (dcRest l) : Int) else dcVal (dcRest l), 0)) →
      SEnds [] r_ref03_Parse (.tp [.ag [Bo false, I (if dcOk (dcRest l) = false then ((0, 2) : Int × Int) else if 9223372036854775808 ≤ dcVal (dcRest l) then (0, 3) else (if headB 45 l then -(dcVal (dcRest l) : Int) else dcVal (dcRest l), 0)).1], I (if dcOk (dcRest l) = false then ((0, 2) : Int × Int) else if 9223372036854775808 ≤ dcVal (dcRest l) then (0, 3) else (if headB 45 l then -(dcVal (dcRest l) : Int) else dcVal (dcRest l), 0)).2]) [] .ret ⟨envOf env, stoOf sto⟩ := by
    intro sg env sto V E h1 h3 h2 h4 h5
    rw [fin sg V E h1 h5]
    refine wends (.inl rfl) ?_ rfl
    simp only [r_ref03_Parse, resL, resL1, core, svE, h2, h3, lsF_app, h4, packA]
    rfl
  cases l with
  | nil =>
    have hR : dcRest [] = [] := rfl
    have hH : headB 45 [] = false := rfl
    have dz : decide ((0 : Int) < 0) = false := rfl
    have dz2 : decide ((0 : Int) < ((0 : Nat) : Int)) = false := rfl
    have d00 : decide ((64 : Int) < ((0 : Nat) : Int)) = false := rfl
    rw [hR] at ends ⊢
    simp only [go_sem, s_ref03_Parse, toB_size, d0, d00, dz, dz2, List.length_nil]
    refine ref03_main [] false (by decide) .undef .undef .undef _ _ _ rfl rfl rfl rfl rfl rfl rfl rfl rfl rfl ?_
    intro env sto V E h3 h2 h4 h5
    exact ends false env sto V E hH h3 h2 h4 h5
  | cons b t =>
    have hs : (b :: t).length = t.length + 1 := rfl
    have dz : decide ((0 : Int) < ((t.length + 1 : Nat) : Int)) = true := decide_eq_true (by omega)
    have hg : (toB (b :: t))[0]? = some b := by rw [getT]; rfl
    have hx : (toB (b :: t)).extract 1 (t.length + 1) = toB t := by rw [extT, List.take_of_length_le (by simp)]; rfl
    have c1 : ((1 : Int) ≤ ((t.length + 1 : Nat) : Int)) = True := eq_true (by omega)
    rw [hs] at d0 hlong
    by_cases h45 : b.toNat = 45
    · have hb : b = 45 := UInt8.toNat_inj.1 h45
      have q1 : decide (b.toNat = 45) = true := decide_eq_true h45
      have hR : dcRest (b :: t) = t := by rw [hb]; rfl
      have hH : headB 45 (b :: t) = true := by rw [hb]; rfl
      rw [hR] at ends ⊢
      simp only [go_sem, s_ref03_Parse, toB_size, d0, hs, dz, hg, q1, hx, c1]
      refine ref03_main t true (by omega) .undef .undef .undef _ _ _ rfl rfl rfl rfl rfl rfl rfl rfl rfl rfl ?_
      intro env sto V E h3 h2 h4 h5
      exact ends true env sto V E hH h3 h2 h4 h5
    · have q1 : decide (b.toNat = 45) = false := decide_eq_false h45
      have hb45 : b ≠ 45 := fun e => h45 (by rw [e]; rfl)
      have hH : headB 45 (b :: t) = false := by unfold headB; simpa using hb45
      by_cases h43 : b.toNat = 43
      · have hb : b = 43 := UInt8.toNat_inj.1 h43
        have q2 : decide (b.toNat = 43) = true := decide_eq_true h43
        have hR : dcRest (b :: t) = t := by rw [hb]; rfl
        rw [hR] at ends ⊢
        simp only [go_sem, s_ref03_Parse, toB_size, d0, hs, dz, hg, q1, q2, hx, c1]
        refine ref03_main t false (by omega) .undef .undef .undef _ _ _ rfl rfl rfl rfl rfl rfl rfl rfl rfl rfl ?_
        intro env sto V E h3 h2 h4 h5
        exact ends false env sto V E hH h3 h2 h4 h5
      · have q2 : decide (b.toNat = 43) = false := decide_eq_false h43
        have hb43 : b ≠ 43 := fun e => h43 (by rw [e]; rfl)
        have hR : dcRest (b :: t) = b :: t := by
          unfold dcRest; rw [hH, if_neg (by decide), if_neg (by unfold headB; simpa using hb43)]
        rw [hR] at ends ⊢
        simp only [go_sem, s_ref03_Parse, toB_size, d0, hs, dz, hg, q1, q2]
        refine ref03_main (b :: t) false (by rw [hs]; omega) .undef .undef .undef _ _ _ rfl rfl rfl rfl rfl rfl rfl rfl rfl rfl ?_
        intro env sto V E h3 h2 h4 h5
        exact ends false env sto V E hH h3 h2 h4 h5

end Go.Proofs.YtaeleljlpcjcdaaGreatDoor
namespace Go.Proofs.YtaeleljlpcjcdaaGreatDoor
open Go Go.Sx

/-- A method's name. -/
def nameM (m : Int) : List UInt8 :=
  if m = 1 then [97, 118, 101, 114, 97, 103, 101] else if m = 2 then [115, 117, 109] else if m = 3 then [109, 105, 110] else if m = 4 then [109, 97, 120] else if m = 5 then [108, 97, 115, 116] else []

/-- A name's method, and whether there is one. -/
def methM (s : List UInt8) : Int × Bool :=
  if (nameM 1 == s) then (1, true) else if (nameM 2 == s) then (2, true) else if (nameM 3 == s) then (3, true) else if (nameM 4 == s) then (4, true) else if (nameM 5 == s) then (5, true) else (0, false)

theorem f_ref12_Name (m : Int) (h1 : -9223372036854775808 ≤ m) (h2 : m < 9223372036854775808) : Meets Tryz.prog E0 n_ref12_Name [I m] [] (Str (toB (nameM m))) [] := by
  refine st0 m_ref12_Name ?_
  have e1 := wrap_i64_of h1 h2
  unfold nameM
  by_cases a1 : m = 1
  · subst a1
    simp only [go_sem, s_ref12_Name]
    refine wE ?_
    simp only [go_sem, r_ref12_Name]
    rfl
  by_cases a2 : m = 2
  · subst a2
    simp only [go_sem, s_ref12_Name]
    refine wE ?_
    simp only [go_sem, r_ref12_Name]
    rfl
  by_cases a3 : m = 3
  · subst a3
    simp only [go_sem, s_ref12_Name]
    refine wE ?_
    simp only [go_sem, r_ref12_Name]
    rfl
  by_cases a4 : m = 4
  · subst a4
    simp only [go_sem, s_ref12_Name]
    refine wE ?_
    simp only [go_sem, r_ref12_Name]
    rfl
  by_cases a5 : m = 5
  · subst a5
    simp only [go_sem, s_ref12_Name]
    refine wE ?_
    simp only [go_sem, r_ref12_Name]
    rfl
  have b1 : decide (m = 1) = false := decide_eq_false a1
  have b2 : decide (m = 2) = false := decide_eq_false a2
  have b3 : decide (m = 3) = false := decide_eq_false a3
  have b4 : decide (m = 4) = false := decide_eq_false a4
  have b5 : decide (m = 5) = false := decide_eq_false a5
  simp only [if_neg a1, if_neg a2, if_neg a3, if_neg a4, if_neg a5]
  simp only [go_sem, s_ref12_Name, b1, b2, b3, b4, b5]
  refine wE ?_
  simp only [go_sem, r_ref12_Name]
  rfl

theorem f_rules_Name (m : Int) (h1 : -9223372036854775808 ≤ m) (h2 : m < 9223372036854775808) : Meets Tryz.prog E0 n_rules_Name [I m] [] (Str (toB (nameM m))) [] := by
  refine st0 m_rules_Name ?_
  by_cases hn : m < 0
  · have d0 : decide (m < 0) = true := decide_eq_true hn
    have ez : nameM m = [] := by unfold nameM; simp only [if_neg (show ¬m = 1 by omega), if_neg (show ¬m = 2 by omega), if_neg (show ¬m = 3 by omega), if_neg (show ¬m = 4 by omega), if_neg (show ¬m = 5 by omega)]
    rw [ez]
    simp only [go_sem, s_rules_Name, d0]
    refine wE ?_
    simp only [go_sem, r_rules_Name]
    rfl
  have d0 : decide (m < 0) = false := decide_eq_false hn
  by_cases hg : 6 ≤ m
  · have d1 : decide (6 ≤ m) = true := decide_eq_true hg
    have ez : nameM m = [] := by unfold nameM; simp only [if_neg (show ¬m = 1 by omega), if_neg (show ¬m = 2 by omega), if_neg (show ¬m = 3 by omega), if_neg (show ¬m = 4 by omega), if_neg (show ¬m = 5 by omega)]
    rw [ez]
    simp only [go_sem, s_rules_Name, d0, d1]
    refine wE ?_
    simp only [go_sem, r_rules_Name]
    rfl
  have c6 : ((6 : Nat) : Int) = 6 := rfl
  have hm : m = 0 ∨ m = 1 ∨ m = 2 ∨ m = 3 ∨ m = 4 ∨ m = 5 := by omega
  rcases hm with rfl | rfl | rfl | rfl | rfl | rfl
  all_goals
    simp only [go_sem, s_rules_Name, c6]
    refine wE ?_
    simp only [go_sem, r_rules_Name]
    rfl

/-- The first of the names from one on. -/
def methF (s : List UInt8) : Nat → Int × Bool
  | 0 => methM s
  | 1 => methM s
  | 2 => if (nameM 2 == s) then (2, true) else if (nameM 3 == s) then (3, true) else if (nameM 4 == s) then (4, true) else if (nameM 5 == s) then (5, true) else (0, false)
  | 3 => if (nameM 3 == s) then (3, true) else if (nameM 4 == s) then (4, true) else if (nameM 5 == s) then (5, true) else (0, false)
  | 4 => if (nameM 4 == s) then (4, true) else if (nameM 5 == s) then (5, true) else (0, false)
  | 5 => if (nameM 5 == s) then (5, true) else (0, false)
  | _ => (0, false)

theorem methF_step (s : List UInt8) (j : Nat) (h1 : 1 ≤ j) (h2 : j ≤ 5) : methF s j = if (nameM (j : Int) == s) then ((j : Int), true) else methF s (j + 1) := by
  have : j = 1 ∨ j = 2 ∨ j = 3 ∨ j = 4 ∨ j = 5 := by omega
  rcases this with rfl | rfl | rfl | rfl | rfl <;> rfl

theorem f_rules_Method (l : List UInt8) : Meets Tryz.prog E0 n_rules_Method [Str (toB l)] [] (.tp [I (methM l).1, Bo (methM l).2]) [] := by
  refine st0 m_rules_Method ?_
  simp only [go_sem, s_rules_Method]
  refine W_loop (fun i : Nat => 7 - i) (fun i => 1 ≤ i ∧ i ≤ 6 ∧ methF l i = methM l) (fun i => [(0, Str (toB l)), (4, I i)]) (fun _ => []) 1 ⟨by omega, by omega, rfl⟩ ?_ ?_
  · exact (sR [] [])
  · rintro i ⟨hi, hi6, hm⟩
    by_cases hil : i ≤ 5
    · have d0 : decide ((i : Int) ≤ 5) = true := decide_eq_true (by omega)
      have ei : IntKind.i64.wrap ((i : Int) + 1) = ((i + 1 : Nat) : Int) := by rw [wrap_i64_of (by omega) (by omega)]; omega
      have q := eqT (nameM (i : Int)) l
      rw [methF_step l i hi hil] at hm
      simp only [go_sem, d0]
      refine Cl_plain (f_rules_Name (i : Int) (by omega) (by omega)) ?_
      cases hb : (nameM (i : Int) == l)
      · rw [hb] at q
        rw [if_neg (by rw [hb]; decide)] at hm
        simp only [go_sem, q, ei]
        exact rd_of (i + 1) (by first | omega | (simp only; omega)) ⟨by omega, by omega, hm⟩ (sR [] [])
      · rw [hb] at q
        rw [if_pos hb] at hm
        simp only [go_sem, q]
        rw [← hm]
        refine wE ?_
        simp only [go_sem, r_rules_Method]
    · obtain rfl : i = 6 := by omega
      have c6 : ((6 : Nat) : Int) = 6 := rfl
      have d0 : decide ((6 : Int) ≤ 5) = false := rfl
      simp only [go_sem, c6, d0]
      rw [← hm]
      refine wE ?_
      simp only [go_sem, r_rules_Method]
      rfl

theorem f_ref12_Method (l : List UInt8) : Meets Tryz.prog E0 n_ref12_Method [Str (toB l)] [] (.tp [I (methM l).1, Bo (methM l).2]) [] := by
  refine st0 m_ref12_Method ?_
  simp only [go_sem, s_ref12_Method]
  refine W_loop (fun i : Nat => 7 - i) (fun i => 1 ≤ i ∧ i ≤ 6 ∧ methF l i = methM l) (fun i => [(0, Str (toB l)), (4, I i)]) (fun _ => []) 1 ⟨by omega, by omega, rfl⟩ ?_ ?_
  · exact (sR [] [])
  · rintro i ⟨hi, hi6, hm⟩
    by_cases hil : i ≤ 5
    · have d0 : decide ((i : Int) ≤ 5) = true := decide_eq_true (by omega)
      have ei : IntKind.i64.wrap ((i : Int) + 1) = ((i + 1 : Nat) : Int) := by rw [wrap_i64_of (by omega) (by omega)]; omega
      have q := eqT (nameM (i : Int)) l
      rw [methF_step l i hi hil] at hm
      simp only [go_sem, d0]
      refine Cl_plain (f_ref12_Name (i : Int) (by omega) (by omega)) ?_
      cases hb : (nameM (i : Int) == l)
      · rw [hb] at q
        rw [if_neg (by rw [hb]; decide)] at hm
        simp only [go_sem, q, ei]
        exact rd_of (i + 1) (by first | omega | (simp only; omega)) ⟨by omega, by omega, hm⟩ (sR [] [])
      · rw [hb] at q
        rw [if_pos hb] at hm
        simp only [go_sem, q]
        rw [← hm]
        refine wE ?_
        simp only [go_sem, r_ref12_Method]
    · obtain rfl : i = 6 := by omega
      have c6 : ((6 : Nat) : Int) = 6 := rfl
      have d0 : decide ((6 : Int) ≤ 5) = false := rfl
      simp only [go_sem, c6, d0]
      rw [← hm]
      refine wE ?_
      simp only [go_sem, r_ref12_Method]
      rfl

end Go.Proofs.YtaeleljlpcjcdaaGreatDoor
namespace Go.Proofs.YtaeleljlpcjcdaaGreatDoor
open Go Go.Sx

theorem unit_ix (c : UInt8) : (Lib.indexByte [115, 109, 104, 100, 119, 121] c < 0 ∧ rtUnit c.toNat = 0) ∨ (Lib.indexByte [115, 109, 104, 100, 119, 121] c = 0 ∧ rtUnit c.toNat = 1) ∨ (Lib.indexByte [115, 109, 104, 100, 119, 121] c = 1 ∧ rtUnit c.toNat = 60) ∨ (Lib.indexByte [115, 109, 104, 100, 119, 121] c = 2 ∧ rtUnit c.toNat = 3600) ∨
    (Lib.indexByte [115, 109, 104, 100, 119, 121] c = 3 ∧ rtUnit c.toNat = 86400) ∨ (Lib.indexByte [115, 109, 104, 100, 119, 121] c = 4 ∧ rtUnit c.toNat = 604800) ∨ (Lib.indexByte [115, 109, 104, 100, 119, 121] c = 5 ∧ rtUnit c.toNat = 31536000) := by
  have h := (by decide +kernel : ∀ n : Fin 256, (Lib.indexByte [115, 109, 104, 100, 119, 121] (UInt8.ofNat n.1) < 0 ∧ rtUnit (UInt8.ofNat n.1).toNat = 0) ∨ (Lib.indexByte [115, 109, 104, 100, 119, 121] (UInt8.ofNat n.1) = 0 ∧ rtUnit (UInt8.ofNat n.1).toNat = 1) ∨ (Lib.indexByte [115, 109, 104, 100, 119, 121] (UInt8.ofNat n.1) = 1 ∧ rtUnit (UInt8.ofNat n.1).toNat = 60) ∨ (Lib.indexByte [115, 109, 104, 100, 119, 121] (UInt8.ofNat n.1) = 2 ∧ rtUnit (UInt8.ofNat n.1).toNat = 3600) ∨
    (Lib.indexByte [115, 109, 104, 100, 119, 121] (UInt8.ofNat n.1) = 3 ∧ rtUnit (UInt8.ofNat n.1).toNat = 86400) ∨ (Lib.indexByte [115, 109, 104, 100, 119, 121] (UInt8.ofNat n.1) = 4 ∧ rtUnit (UInt8.ofNat n.1).toNat = 604800) ∨ (Lib.indexByte [115, 109, 104, 100, 119, 121] (UInt8.ofNat n.1) = 5 ∧ rtUnit (UInt8.ofNat n.1).toNat = 31536000))
  have := h ⟨c.toNat, u8_lt c⟩
  simpa using this

theorem strE (s : ByteArray) : binStr .eql s (bs []) = some (.bool (decide (s.size = 0))) := by
  simp only [binStr]
  have hn : (bs []).toList = [] := by rw [Lib.toList_data]; rfl
  congr 2
  rw [hn, Lib.toList_data, ← ba_len]
  cases s.data.toList with
  | nil => rfl
  | cons a l => rw [decide_eq_false (by simp)]; rfl

theorem f_retention_Span (s : ByteArray) (hs : s.size ≤ 140737488351232) : Meets Tryz.prog E0 n_retention_Span [Str s] [] (.tp [I (rtSpn s.data.toList).1, I (rtSpn s.data.toList).2]) [] := by
  refine st0 m_retention_Span ?_
  have es := strE s
  by_cases h0 : s.size = 0
  · have hv : rtSpn s.data.toList = (0, 2) := by
      have : s.data.toList = [] := List.eq_nil_of_length_eq_zero (by rw [ba_len]; exact h0)
      rw [this]; rfl
    rw [decide_eq_true h0] at es
    rw [hv]
    simp only [go_sem, s_retention_Span, es]
    refine wE ?_
    simp only [go_sem, r_retention_Span]
  · rw [decide_eq_false h0] at es
    have hne : s.data.toList ≠ [] := by intro h; rw [← ba_len, h] at h0; exact h0 rfl
    obtain ⟨i, c, hic⟩ := snoc_of hne
    have hlen : i.length + 1 = s.size := by rw [← ba_len, hic]; simp
    have hg : s[i.length]? = some c := by rw [ba_get, hic]; simp
    have hx : (s.extract 0 i.length).data.toList = i := by rw [← take_bytes, hic]; simp
    have hsz : (s.extract 0 i.length).size ≤ 140737488351232 := by rw [← ba_len, hx]; omega
    have hwh := f_retention_whole (s.extract 0 i.length) hsz
    rw [hx] at hwh
    have e1 : IntKind.i64.wrap ((s.size : Int) - 1) = (i.length : Int) := by rw [wrap_i64_of (by omega) (by omega)]; omega
    have hsp := rtSpn_snoc i c
    rw [← hic] at hsp
    have hw := rtWhole_le i
    have hix := f_IndexByte ⟨#[115, 109, 104, 100, 119, 121]⟩ c
    have hb : (i.length : Int) ≤ (s.size : Int) := by omega
    have hu := unit_ix c
    have hxi : Lib.indexByte (⟨#[115, 109, 104, 100, 119, 121]⟩ : ByteArray).data.toList c = Lib.indexByte [115, 109, 104, 100, 119, 121] c := rfl
    rw [hxi] at hix
    generalize Lib.indexByte [115, 109, 104, 100, 119, 121] c = u at *
    generalize rtWhole i = w at *
    generalize rtUnit c.toNat = v at *
    obtain ⟨n, e⟩ := w
    simp only at hw hsp hwh
    simp only [go_sem, s_retention_Span, es, e1, hg]
    refine Cl_plain hix ?_
    simp only [go_sem, hb]
    refine Cl_plain hwh ?_
    clear hwh hix hg hne es
    rcases hu with ⟨hu, hv⟩ | hu
    · rw [if_pos (Or.inl hv)] at hsp
      have d0 : decide (u < 0) = true := decide_eq_true hu
      rw [hsp]
      simp only [go_sem, d0]
      refine wE ?_
      simp only [go_sem, r_retention_Span]
    · have d0 : decide (u < 0) = false := decide_eq_false (by omega)
      rcases hw.2.2 with he | he | he
      · subst he
        have c6 : ((6 : Nat) : Int) = 6 := rfl
        have h0 : ¬ v = 0 := by omega
        have wq : binInt .quo .i64 1099511627776 v = some (.int .i64 (1099511627776 / v)) := by
          have q0 : (0 : Int) ≤ 1099511627776 / v := Int.ediv_nonneg (by omega) (by omega)
          have q1 : (1099511627776 : Int) / v ≤ 1099511627776 := Int.ediv_le_self _ (by omega)
          rw [i64_quo h0, sdiv (by omega), wrap_i64_of (by omega) (by omega)]
        have q2 : (1099511627776 : Int) / v * v ≤ 1099511627776 := Int.ediv_mul_le _ h0
        rw [if_neg (by simp [h0])] at hsp
        by_cases hq : 1099511627776 / v < n
        · have dq : decide (1099511627776 / v < n) = true := decide_eq_true hq
          rw [if_pos (Or.inr hq)] at hsp
          rw [hsp]
          rcases hu with ⟨rfl, rfl⟩ | ⟨rfl, rfl⟩ | ⟨rfl, rfl⟩ | ⟨rfl, rfl⟩ | ⟨rfl, rfl⟩ | ⟨rfl, rfl⟩
          all_goals
            simp only [go_sem, wq, dq, c6]
            refine wE ?_
            simp only [go_sem, r_retention_Span]
        · have dq : decide (1099511627776 / v < n) = false := decide_eq_false hq
          have wm : IntKind.i64.wrap (n * v) = n * v := by
            have m1 : n * v ≤ 1099511627776 / v * v := Int.mul_le_mul_of_nonneg_right (by omega) (by omega)
            have m2 : 0 ≤ n * v := Int.mul_nonneg (by omega) (by omega)
            exact wrap_i64_of (by omega) (by omega)
          rw [if_neg (by rintro (h | h); exact h rfl; exact hq h)] at hsp
          rw [hsp]
          rcases hu with ⟨rfl, rfl⟩ | ⟨rfl, rfl⟩ | ⟨rfl, rfl⟩ | ⟨rfl, rfl⟩ | ⟨rfl, rfl⟩ | ⟨rfl, rfl⟩
          all_goals
            simp only [go_sem, wq, dq, wm, c6]
            refine wE ?_
            simp only [go_sem, r_retention_Span]
      · subst he
        rw [if_pos (Or.inr rfl)] at hsp
        rw [hsp]
        simp only [go_sem, d0]
        refine wE ?_
        simp only [go_sem, r_retention_Span]
      · subst he
        have h0 : ¬ v = 0 := by omega
        rw [if_neg (by simp [h0]), if_pos (Or.inl (by decide))] at hsp
        rw [hsp]
        simp only [go_sem, d0]
        refine wE ?_
        simp only [go_sem, r_retention_Span]

theorem f_retention_either (s : ByteArray) (hs : s.size ≤ 140737488351232) : Meets Tryz.prog E0 n_retention_either [Str s] [] (.tp [I (rtEith s.data.toList).1, Bo (rtEith s.data.toList).2.1, I (rtEith s.data.toList).2.2]) [] := by
  refine st0 m_retention_either ?_
  have hw := f_retention_whole s hs
  have hp := f_retention_Span s hs
  rw [rtEith_eq]
  generalize rtWhole s.data.toList = w at *
  generalize rtSpn s.data.toList = q at *
  by_cases h : w.2 = 2
  · have d : decide (w.2 = 2) = true := decide_eq_true h
    rw [if_pos h]
    simp only [go_sem, s_retention_either]
    refine Cl_plain hw ?_
    simp only [go_sem, d]
    refine Cl_plain hp ?_
    simp only [go_sem]
    refine wE ?_
    simp only [go_sem, r_retention_either]
  · have d : decide (w.2 = 2) = false := decide_eq_false h
    rw [if_neg h]
    simp only [go_sem, s_retention_either]
    refine Cl_plain hw ?_
    simp only [go_sem, d]
    refine wE ?_
    simp only [go_sem, r_retention_either]

theorem f_retention_rung (s : ByteArray) (hs : s.size ≤ 140737488351232) : Meets Tryz.prog E0 n_retention_rung [Str s] [] (.tp [.ag [I (rtRung s.data.toList).1, I (rtRung s.data.toList).2.1], I (rtRung s.data.toList).2.2]) [] := by
  refine st0 m_retention_rung ?_
  have hT := f_Trim_one s 32 (by decide) (by omega)
  obtain ⟨t, ht⟩ : ∃ t : ByteArray, t = ⟨(Lib.trimB s.data.toList 32).toArray⟩ := ⟨_, rfl⟩
  have htl : t.data.toList = Lib.trimB s.data.toList 32 := by rw [ht]
  have htz : t.size ≤ s.size := by
    rw [← ba_len, ← ba_len, htl]
    unfold Lib.trimB Lib.trimLeftB Lib.trimRightB
    refine Nat.le_trans (List.dropWhile_suffix _).length_le ?_
    rw [List.length_reverse]
    refine Nat.le_trans (List.dropWhile_suffix _).length_le ?_
    rw [List.length_reverse]; exact Nat.le_refl _
  have hr := rtRung_eq s.data.toList
  rw [← htl] at hr
  rw [← ht] at hT
  have hC := f_Cut t 58 (by omega)
  clear ht htl
  simp only at hr
  have hat := partsB_at 58 t.data.toList
  unfold cutB at hC
  generalize Lib.indexByte t.data.toList 58 = i at *
  by_cases hi : i < 0
  · rw [if_neg (by omega)] at hC
    rw [if_pos hi] at hr
    rw [hr]
    simp only [go_sem, s_retention_rung]
    refine Cl_plain hT ?_
    simp only [go_sem]
    refine Cl_plain hC ?_
    simp only [go_sem]
    refine wE ?_
    simp only [go_sem, r_retention_rung]
  · rw [if_pos (by omega)] at hC
    rw [if_neg hi] at hr
    obtain ⟨n, rfl⟩ : ∃ n : Nat, i = n := ⟨i.toNat, by omega⟩
    simp only [Int.toNat_natCast] at hC hr hat
    have e1 : (t.extract 0 n).data.toList = t.data.toList.take n := (take_bytes t n).symm
    have e2 : (t.extract (n + 1) t.size).data.toList = t.data.toList.drop (n + 1) := Lib.extract_to_end ..
    have z1 : (t.extract 0 n).size ≤ 140737488351232 := by rw [← ba_len, e1]; simp; omega
    have z2 : (t.extract (n + 1) t.size).size ≤ 140737488351232 := by rw [← ba_len, e2]; simp; omega
    have h1 := f_retention_either _ z1
    have h2 := f_retention_either _ z2
    have b1 := rtEith_le (t.data.toList.take n)
    have b2 := rtEith_le (t.data.toList.drop (n + 1))
    rw [e1] at h1
    rw [e2] at h2
    generalize rtRung s.data.toList = R at *
    generalize t.extract 0 n = t1 at *
    generalize t.extract (n + 1) t.size = t2 at *
    generalize rtEith (t.data.toList.take n) = x at *
    generalize rtEith (t.data.toList.drop (n + 1)) = y at *
    clear hat
    obtain ⟨x1, xb, xe⟩ := x
    obtain ⟨y1, yb, ye⟩ := y
    simp only at b1 b2 hr h1 h2
    simp only [go_sem, s_retention_rung]
    refine Cl_plain hT ?_
    simp only [go_sem]
    refine Cl_plain hC ?_
    simp only [go_sem]
    refine Cl_plain h1 ?_
    simp only [go_sem]
    refine Cl_plain h2 ?_
    clear hT hC h1 h2 e1 e2 z1 z2
    by_cases q1 : xe = 2 ∨ ye = 2
    · rw [if_pos q1] at hr
      rw [hr]
      rcases b1.2.2 with rfl | rfl | rfl <;> rcases b2.2.2 with rfl | rfl | rfl <;> first | (exfalso; revert q1; decide) | skip
      all_goals
        simp only [go_sem]
        refine wE ?_
        simp only [go_sem, r_retention_rung]
    · rw [if_neg q1] at hr
      by_cases q2 : xe ≠ 0 ∨ ye ≠ 0 ∨ x1 = 0
      · rw [if_pos q2] at hr
        rw [hr]
        rcases b1.2.2 with rfl | rfl | rfl <;> rcases b2.2.2 with rfl | rfl | rfl <;> first | (exfalso; revert q1; decide) | skip
        · have d : decide (x1 = 0) = true := by simpa using q2
          simp only [go_sem, d]
          refine wE ?_
          simp only [go_sem, r_retention_rung]
        all_goals
          simp only [go_sem]
          refine wE ?_
          simp only [go_sem, r_retention_rung]
      · rw [if_neg q2] at hr
        rw [hr]
        obtain ⟨rfl, rfl, h0⟩ : xe = 0 ∧ ye = 0 ∧ ¬ x1 = 0 := by
          refine ⟨?_, ?_, ?_⟩ <;> (apply Decidable.byContradiction; intro h; apply q2; simp_all)
        have d : decide (x1 = 0) = false := decide_eq_false h0
        have wq : binInt .quo .i64 y1 x1 = some (.int .i64 (y1 / x1)) := by
          have q0 : (0 : Int) ≤ y1 / x1 := Int.ediv_nonneg (by omega) (by omega)
          have q1 : y1 / x1 ≤ y1 := Int.ediv_le_self _ (by omega)
          rw [i64_quo h0, sdiv (by omega), wrap_i64_of (by omega) (by omega)]
        cases yb
        · simp only [go_sem, d, wq]
          refine wE ?_
          simp only [go_sem, r_retention_rung]
        · simp only [go_sem, d]
          refine wE ?_
          simp only [go_sem, r_retention_rung]

end Go.Proofs.YtaeleljlpcjcdaaGreatDoor
namespace Go.Proofs.YtaeleljlpcjcdaaGreatDoor
open Go Go.Sx

/-- A slot: its time, its value. -/
abbrev Slot := Int × Int
def slT (s : Slot) : List T := [.v (.int .i64 s.1), .v (.int .i64 s.2)]
abbrev slL (l : List Slot) : AV := .t (.sl 2 (l.map slT))
abbrev ringV (w : Int) (l : List Slot) : AV := .ag [I w, slL l]
/-- A number, or nothing. -/
abbrev Num := Bool × Int
abbrev numV (n : Num) : AV := .ag [Bo n.1, I n.2]
def numT (n : Num) : List T := [.v (.bool n.1), .v (.int .i64 n.2)]
abbrev numL (l : List Num) : AV := .t (.sl 2 (l.map numT))

def timedB (t : Int) : Bool := decide (0 ≤ t) && decide (t ≤ 1099511627776)
def sizedB (w c : Int) : Bool := decide (1 ≤ w) && decide (w ≤ 86400) && decide (1 ≤ c) && decide (c ≤ 400)
def slotB (w n i : Int) (s : Slot) : Bool := (s.1 == -1 && s.2 == 0) || (timedB s.1 && (s.2 != -9223372036854775808) && (s.1 % w == 0) && (s.1 / w % n == i))
def slotsB (w n : Int) : Int → List Slot → Bool
  | _, [] => true
  | i, s :: l => slotB w n i s && slotsB w n (i + 1) l
def ringB (w : Int) (l : List Slot) : Bool := sizedB w l.length && slotsB w l.length 0 l

theorem timedB_iff {t : Int} : timedB t = true ↔ 0 ≤ t ∧ t ≤ 1099511627776 := by simp [timedB]
theorem sizedB_iff {w c : Int} : sizedB w c = true ↔ 1 ≤ w ∧ w ≤ 86400 ∧ 1 ≤ c ∧ c ≤ 400 := by simp [sizedB, and_assoc]

theorem slotsB_get {w n : Int} : ∀ {l : List Slot} {i : Int} {k : Nat} {s : Slot}, slotsB w n i l = true → l[k]? = some s → slotB w n (i + k) s = true
  | [], _, _, _, _, h => by simp at h
  | s :: l, i, 0, u, h, hk => by simp only [slotsB, Bool.and_eq_true] at h; simp at hk; subst hk; simpa using h.1
  | s :: l, i, k + 1, u, h, hk => by
    simp only [slotsB, Bool.and_eq_true] at h
    have := slotsB_get h.2 (k := k) (s := u) (by simpa using hk)
    rwa [show i + 1 + (k : Int) = i + ((k + 1 : Nat) : Int) by omega] at this

def alignM (w : Int) (l : List Slot) (t : Int) : Int × Int := if ringB w l && timedB t then (t - t % w, 0) else (0, 1)
def placeM (w : Int) (l : List Slot) (t : Int) : Nat := (t / w % (l.length : Int)).toNat
def setM (w : Int) (l : List Slot) (t v : Int) : List Slot × Int := if ringB w l && timedB t && (v != -9223372036854775808) then (l.set (placeM w l (t - t % w)) (t - t % w, v), 0) else (l, 1)
def valueM (w : Int) (l : List Slot) (t : Int) : Num := match l[placeM w l t]? with
  | some s => if s.1 = t then (false, s.2) else (true, 0)
  | none => (true, 0)
def getM (w : Int) (l : List Slot) (t : Int) : Num := if ringB w l && timedB t then valueM w l (t - t % w) else (true, 0)

theorem ringB_sized {w : Int} {l : List Slot} (h : ringB w l = true) : 1 ≤ w ∧ w ≤ 86400 ∧ 1 ≤ l.length ∧ l.length ≤ 400 := by
  simp only [ringB, Bool.and_eq_true] at h
  have := sizedB_iff.1 h.1
  omega

theorem placeM_lt {w : Int} {l : List Slot} (h : 0 < l.length) (t : Int) : placeM w l t < l.length := by
  unfold placeM
  have h1 := Int.emod_lt_of_pos (t / w) (show (0 : Int) < l.length by omega)
  have h2 := Int.emod_nonneg (t / w) (show (l.length : Int) ≠ 0 by omega)
  omega

theorem take_map_len {α β : Type} (l : List α) (f : α → β) : (l.map f).take l.length = l.map f := by rw [List.take_of_length_le]; simp

theorem map_len_succ {α β : Type} {l : List α} {f : α → β} {e : β} {es : List β} (h : l.map f = e :: es) : es.length + 1 = l.length := by
  have := congrArg List.length h; simpa using this.symm

theorem slT_inj {a b : Slot} (h : slT a = slT b) : a = b := by
  simp [slT] at h; exact Prod.ext h.1 h.2

def newM (w c : Int) : (Int × List Slot) × Int := if sizedB w c then ((w, List.replicate c.toNat (-1, 0)), 0) else ((0, []), 1)

theorem splice_rep {α : Type} (e z : α) (c n : Nat) (h : n ≤ c) :
    splice (List.replicate n e ++ List.replicate (c - n) z) n (((List.replicate n e ++ List.replicate (c - n) z).take n).take (c - n)) = List.replicate (n + min n (c - n)) e ++ List.replicate (c - (n + min n (c - n))) z := by
  have h1 : (List.replicate n e ++ List.replicate (c - n) z).take n = List.replicate n e := by
    rw [List.take_append_of_le_length (by simp), List.take_of_length_le (by simp)]
  rw [h1, List.take_replicate]
  unfold splice
  rw [h1, List.length_replicate, List.drop_append, List.drop_replicate, List.drop_replicate, List.length_replicate, List.replicate_append_replicate]
  rw [show n - (n + min (c - n) n) = 0 by omega, show c - n - (n + min (c - n) n - n) = c - (n + min n (c - n)) by omega, Nat.min_comm]
  simp

/-- The first slot's number at or behind a time. -/
def ceilM (w t : Int) : Int := (t + w - 1) / w
def cntM (w a b : Int) : Nat := (ceilM w b - ceilM w a).toNat
/-- The values of so many slots. -/
def spanL (w : Int) (l : List Slot) (a : Int) (n : Nat) : List Num := (List.range n).map fun (i : Nat) => valueM w l ((ceilM w a + (i : Int)) * w)
def spanM (w : Int) (l : List Slot) (a b : Int) : List Num × Int :=
  if ringB w l && timedB a && timedB b then (if 2000 < cntM w a b then ([], 11) else (spanL w l a (cntM w a b), 0)) else ([], 1)

theorem ceil_lt {w b k : Int} (hw : 0 < w) : k * w < b ↔ k < ceilM w b := by
  unfold ceilM
  have h : k * w < b ↔ k * w + w ≤ b + w - 1 := by omega
  rw [h, show k * w + w = (k + 1) * w by rw [Int.add_mul, Int.one_mul], ← Int.le_ediv_iff_mul_le hw]
  omega

theorem ceil_bd {w a : Int} (hw : 1 ≤ w) (ha : 0 ≤ a) : 0 ≤ ceilM w a ∧ ceilM w a * w ≤ a + w - 1 ∧ a ≤ ceilM w a * w ∧ ceilM w a ≤ a := by
  unfold ceilM
  have h1 := Int.mul_ediv_add_emod (a + w - 1) w
  have h2 := Int.emod_nonneg (a + w - 1) (show w ≠ 0 by omega)
  have h3 := Int.emod_lt_of_pos (a + w - 1) (show 0 < w by omega)
  have h4 : 0 ≤ (a + w - 1) / w := Int.ediv_nonneg (by omega) (by omega)
  rw [Int.mul_comm] at h1
  refine ⟨h4, by omega, by omega, ?_⟩
  rcases Int.lt_or_le a ((a + w - 1) / w) with h | h
  · exfalso
    have h5 : (a + 1) * w ≤ (a + w - 1) / w * w := Int.mul_le_mul_of_nonneg_right (by omega) (by omega)
    have h6 : a * 1 ≤ a * w := Int.mul_le_mul_of_nonneg_left hw ha
    rw [Int.add_mul] at h5
    omega
  · exact h

theorem spanL_zero (w : Int) (l : List Slot) (a : Int) : spanL w l a 0 = [] := rfl
theorem spanL_succ (w : Int) (l : List Slot) (a : Int) (n : Nat) : spanL w l a (n + 1) = spanL w l a n ++ [valueM w l ((ceilM w a + (n : Int)) * w)] := by
  unfold spanL; rw [List.range_succ, List.map_append]; rfl
theorem spanL_len (w : Int) (l : List Slot) (a : Int) (n : Nat) : (spanL w l a n).length = n := by simp [spanL]

theorem cnt_eq {w a b : Int} (hw : 0 < w) : (b - 1 - ceilM w a * w) / w + 1 = ceilM w b - ceilM w a := by
  unfold ceilM
  have h1 : (b - 1 - (a + w - 1) / w * w) / w = (b - 1) / w - (a + w - 1) / w := by
    rw [Int.sub_eq_add_neg, ← Int.neg_mul, Int.add_mul_ediv_right _ _ (by omega)]; omega
  have h2 : (b + w - 1) / w = (b - 1) / w + 1 := by
    rw [show b + w - 1 = (b - 1) + 1 * w by omega, Int.add_mul_ediv_right _ _ (by omega)]
  rw [h1, h2]; omega

theorem set_last {α : Type} (l : List α) (z x : α) (k n : Nat) (h : l.length = n) : (l ++ List.replicate (k + 1) z).set n x = (l ++ [x]) ++ List.replicate k z := by
  subst h
  rw [List.set_append_right _ _ (Nat.le_refl _), Nat.sub_self, List.replicate_succ]; simp

theorem get_last {α : Type} (l : List α) (z : α) (k n : Nat) (h : l.length = n) : (l ++ List.replicate (k + 1) z)[n]? = some z := by
  subst h
  rw [List.getElem?_append_right (Nat.le_refl _), Nat.sub_self, List.replicate_succ]; rfl

theorem slotsB_set {w n : Int} : ∀ {l : List Slot} {i : Int} {k : Nat} {s : Slot}, slotsB w n i l = true → slotB w n (i + k) s = true → slotsB w n i (l.set k s) = true
  | [], _, _, _, _, _ => by simp [slotsB]
  | u :: l, i, 0, s, h, hs => by
    simp only [slotsB, Bool.and_eq_true] at h
    simp only [List.set_cons_zero, slotsB, Bool.and_eq_true]
    exact ⟨by simpa using hs, h.2⟩
  | u :: l, i, k + 1, s, h, hs => by
    simp only [slotsB, Bool.and_eq_true] at h
    simp only [List.set_cons_succ, slotsB, Bool.and_eq_true]
    refine ⟨h.1, slotsB_set h.2 ?_⟩
    rwa [show i + ((k + 1 : Nat) : Int) = i + 1 + (k : Int) by omega] at hs

theorem slot_bd {w t : Int} (hw : 1 ≤ w) (ht : 0 ≤ t) : 0 ≤ t - t % w ∧ t - t % w ≤ t ∧ (t - t % w) % w = 0 := by
  have m1 := Int.emod_nonneg t (show w ≠ 0 by omega)
  have m3 : t - t % w = w * (t / w) := by have := Int.mul_ediv_add_emod t w; omega
  have m4 : 0 ≤ t - t % w := by rw [m3]; exact Int.mul_nonneg (by omega) (Int.ediv_nonneg ht (by omega))
  refine ⟨m4, by omega, ?_⟩
  rw [m3]; exact Int.mul_emod_right _ _

theorem setM_ok {w t v : Int} {l : List Slot} (h : ringB w l = true) (ht : timedB t = true) (hv : v ≠ -9223372036854775808) : setM w l t v = (l.set (placeM w l (t - t % w)) (t - t % w, v), 0) := by
  simp [setM, h, ht, hv]

theorem setM_bad {w t v : Int} {l : List Slot} (h : ¬ (ringB w l = true ∧ timedB t = true ∧ v ≠ -9223372036854775808)) : setM w l t v = (l, 1) := by
  have : (ringB w l && timedB t && (v != -9223372036854775808)) = false := by
    rw [Bool.eq_false_iff]; intro h'
    simp only [Bool.and_eq_true, bne_iff_ne] at h'
    exact h ⟨h'.1.1, h'.1.2, h'.2⟩
  simp only [setM, this]; rfl

/-- A ring stays one when a slot is set. -/
theorem set_right {w t v : Int} {l : List Slot} (h : ringB w l = true) (ht : timedB t = true) (hv : v ≠ -9223372036854775808) : ringB w (l.set (placeM w l (t - t % w)) (t - t % w, v)) = true := by
  have hs := ringB_sized h
  have h' := timedB_iff.1 ht
  have hb := slot_bd hs.1 h'.1
  have h2 := h
  simp only [ringB, Bool.and_eq_true] at h2 ⊢
  rw [List.length_set]
  refine ⟨h2.1, slotsB_set h2.2 ?_⟩
  have hp : (t - t % w) / w % (l.length : Int) = ((placeM w l (t - t % w) : Nat) : Int) := by
    unfold placeM
    have := Int.emod_nonneg ((t - t % w) / w) (show (l.length : Int) ≠ 0 by omega)
    omega
  have ht2 : timedB (t - t % w) = true := timedB_iff.2 (by omega)
  simp [slotB, ht2, hv, hb.2.2, hp]

theorem get_set {w t v : Int} {l : List Slot} (h : ringB w l = true) (ht : timedB t = true) (hv : v ≠ -9223372036854775808) : getM w (l.set (placeM w l (t - t % w)) (t - t % w, v)) t = (false, v) := by
  have hs := ringB_sized h
  have hlt := placeM_lt (w := w) (l := l) (by omega) (t - t % w)
  have hp : placeM w (l.set (placeM w l (t - t % w)) (t - t % w, v)) (t - t % w) = placeM w l (t - t % w) := by unfold placeM; simp
  simp [getM, set_right h ht hv, ht, valueM, hp, hlt]

theorem spanL_add (w : Int) (l : List Slot) (a b : Int) (m : Nat) (h : ceilM w b = ceilM w a + m) : ∀ n, spanL w l a (m + n) = spanL w l a m ++ spanL w l b n
  | 0 => by simp [spanL_zero]
  | n + 1 => by
    rw [← Nat.add_assoc, spanL_succ, spanL_succ, spanL_add w l a b m h n, h, List.append_assoc]
    rw [show ceilM w a + ((m + n : Nat) : Int) = ceilM w a + (m : Int) + (n : Int) by omega]

theorem ceil_mono {w a b : Int} (hw : 1 ≤ w) (h : a ≤ b) : ceilM w a ≤ ceilM w b := by
  unfold ceilM; exact Int.ediv_le_ediv (by omega) (by omega)

end Go.Proofs.YtaeleljlpcjcdaaGreatDoor
namespace Go.Proofs.YtaeleljlpcjcdaaGreatDoor
open Go Go.Sx

abbrev Rung := Int × Int

def szB (r : Rung) : Bool := sizedB r.1 r.2
/-- How many seconds an archive has. -/
def rchM (r : Rung) : Int := if szB r then r.1 * r.2 else 0
def flwB (a b : Rung) : Bool := decide (a.1 < b.1) && (decide (b.1 % a.1 = 0) && (decide (rchM a < rchM b) && decide (b.1 / a.1 ≤ a.2)))
def chainB : List Rung → Bool
  | a :: b :: l => flwB a b && chainB (b :: l)
  | _ => true
def togB (l : List Rung) : Bool := decide (1 ≤ l.length) && decide (l.length ≤ 4) && l.all szB && chainB l

theorem szB_iff {r : Rung} : szB r = true ↔ 1 ≤ r.1 ∧ r.1 ≤ 86400 ∧ 1 ≤ r.2 ∧ r.2 ≤ 400 := sizedB_iff

theorem mul_bd {a b : Int} (h1 : 1 ≤ a) (h2 : a ≤ 86400) (h3 : 1 ≤ b) (h4 : b ≤ 400) : 1 ≤ a * b ∧ a * b ≤ 34560000 := by
  have g1 := Int.mul_le_mul h2 h4 (by omega) (by omega)
  have g2 := Int.mul_le_mul h1 h3 (by omega) (by omega)
  omega

theorem rch_bd (r : Rung) : 0 ≤ rchM r ∧ rchM r ≤ 34560000 := by
  unfold rchM
  split
  · rename_i h
    have h := szB_iff.1 h
    have := mul_bd h.1 h.2.1 h.2.2.1 h.2.2.2
    omega
  · omega

theorem all_get {l : List Rung} {f : Rung → Bool} {i : Nat} {r : Rung} (h : l.all f = true) (hg : l[i]? = some r) : f r = true :=
  List.all_eq_true.1 h r (List.mem_of_getElem? hg)

theorem chain_get : ∀ {l : List Rung} {i : Nat} {a b : Rung}, chainB l = true → l[i]? = some a → l[i + 1]? = some b → flwB a b = true
  | [], i, a, b, _, h, _ => by simp at h
  | [x], i, a, b, _, _, h => by simp at h
  | x :: y :: l, 0, a, b, hc, h1, h2 => by
    simp only [chainB, Bool.and_eq_true] at hc
    simp at h1 h2; subst h1 h2; exact hc.1
  | x :: y :: l, i + 1, a, b, hc, h1, h2 => by
    simp only [chainB, Bool.and_eq_true] at hc
    exact chain_get (l := y :: l) (i := i) hc.2 (by simpa using h1) (by simpa using h2)

abbrev Ring := Int × List Slot
def rgT (r : Ring) : List T := [.v (.int .i64 r.1), .sl 2 (r.2.map slT)]
abbrev rgL (l : List Ring) : AV := .t (.sl 2 (l.map rgT))
abbrev ladV (m f : Int) (l : List Ring) : AV := .ag [I m, I f, rgL l]
def rungM (r : Ring) : Rung := (r.1, (r.2.length : Int))
def howB (m f : Int) : Bool := decide (1 ≤ m) && (decide (m ≤ 5) && (decide (0 ≤ f) && decide (f ≤ 1000000)))
def rgB (r : Ring) : Bool := ringB r.1 r.2
def ladB (m f : Int) (l : List Ring) : Bool := howB m f && l.all rgB && togB (l.map rungM)

theorem tog_len {l : List Rung} (h : togB l = true) : 1 ≤ l.length ∧ l.length ≤ 4 := by
  simp only [togB, Bool.and_eq_true, decide_eq_true_eq] at h
  exact h.1.1

theorem tog_all {l : List Rung} (h : togB l = true) : l.all szB = true := by
  simp only [togB, Bool.and_eq_true] at h
  exact h.1.2

theorem tog_chain {l : List Rung} (h : togB l = true) : chainB l = true := by
  simp only [togB, Bool.and_eq_true] at h
  exact h.2

theorem lad_parts {m f : Int} {l : List Ring} (h : ladB m f l = true) : howB m f = true ∧ l.all rgB = true ∧ togB (l.map rungM) = true ∧ 1 ≤ l.length ∧ l.length ≤ 4 := by
  simp only [ladB, Bool.and_eq_true] at h
  have := tog_len h.2
  rw [List.length_map] at this
  exact ⟨h.1.1, h.1.2, h.2, this⟩

end Go.Proofs.YtaeleljlpcjcdaaGreatDoor
