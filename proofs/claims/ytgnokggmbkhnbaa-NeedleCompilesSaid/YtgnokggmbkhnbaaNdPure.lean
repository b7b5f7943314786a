/- The two ways to find a pattern agree. No statement of the seat is proved here. -/
import Derived.Test.YtgnokggmbkhnbaaNdFindM
set_option linter.unusedSimpArgs false
set_option linter.unusedVariables false
namespace Go.Proofs.Ytgnokggmbkhnbaa
open Go Go.Sx

/-- Are all items from one place to another of any number? -/
def chain (is : List Item) (i k : Nat) : Prop := i ≤ k ∧ ∀ m, i ≤ m → m < k → starAt is m = true

def gt (s : List Bool) (k : Nat) : Prop := s.getD k false = true

theorem getD_set (s : List Bool) (i k : Nat) (v : Bool) (h : i < s.length) : (s.set i v).getD k false = if k = i then v else s.getD k false := by
  simp only [List.getD_eq_getElem?_getD, List.getElem?_set]
  by_cases hk : k = i
  · subst hk; simp [h]
  · rw [if_neg (Ne.symm hk), if_neg hk]

/-- All that may come next is there, but behind one place. -/
def closedX (is : List Item) (s : List Bool) (i : Nat) : Prop := ∀ k, k < is.length → k + 1 ≠ i → gt s k → starAt is k = true → gt s (k + 1)
def closed (is : List Item) (s : List Bool) : Prop := ∀ k, k < is.length → gt s k → starAt is k = true → gt s (k + 1)

theorem star_lt {is : List Item} {i : Nat} (h : starAt is i = true) : i < is.length := by
  unfold starAt at h
  by_cases hi : i < is.length
  · exact hi
  · rw [List.getElem?_eq_none (by omega)] at h; simp at h

theorem chain_gt {is : List Item} {s : List Bool} (hcl : closed is s) {i : Nat} (h0 : gt s i) : ∀ {k : Nat}, i ≤ k → (∀ m, i ≤ m → m < k → starAt is m = true) → k ≤ is.length → gt s k
  | 0, h1, _, _ => by
    have : i = 0 := by omega
    subst this; exact h0
  | k + 1, h1, h2, h3 => by
    by_cases e : i = k + 1
    · subst e; exact h0
    · exact hcl k (by omega) (chain_gt hcl h0 (by omega) (fun m a b => h2 m a (by omega)) (by omega)) (h2 k (by omega) (by omega))

theorem reach_spec (is : List Item) : ∀ (f i : Nat) (s : List Bool), s.length = is.length + 1 → i ≤ is.length → is.length < i + f → closedX is s i →
    closed is (reachM is f i s) ∧ ∀ k, gt (reachM is f i s) k ↔ gt s k ∨ (chain is i k ∧ k ≤ is.length)
  | 0, i, s, _, hi, hf, _ => by omega
  | f + 1, i, s, hs, hi, hf, hc => by
    simp only [reachM]
    by_cases hsi : s.getD i false = true
    · rw [if_pos hsi]
      have hcl : closed is s := by
        intro k hk h1 h2
        by_cases e : k + 1 = i
        · rw [e]; exact hsi
        · exact hc k hk e h1 h2
      refine ⟨hcl, fun k => ⟨Or.inl, fun h => ?_⟩⟩
      rcases h with h | ⟨⟨h1, h2⟩, h3⟩
      · exact h
      · exact chain_gt hcl hsi h1 h2 h3
    · rw [if_neg hsi]
      have hsl : i < s.length := by omega
      have hset : ∀ k, gt (s.set i true) k ↔ k = i ∨ gt s k := by
        intro k
        unfold gt
        rw [getD_set s i k true hsl]
        by_cases e : k = i
        · simp [e]
        · simp [e]
      by_cases hst : starAt is i = true
      · rw [if_pos hst]
        have hlt := star_lt hst
        have hc2 : closedX is (s.set i true) (i + 1) := by
          intro k hk h0 h1 h2
          rw [hset] at h1 ⊢
          rcases h1 with h1 | h1
          · exact absurd (by rw [h1]) h0
          · by_cases e : k + 1 = i
            · exact Or.inl e
            · exact Or.inr (hc k hk e h1 h2)
        obtain ⟨g1, g2⟩ := reach_spec is f (i + 1) (s.set i true) (by simpa using hs) (by omega) (by omega) hc2
        refine ⟨g1, fun k => ?_⟩
        rw [g2 k, hset]
        constructor
        · rintro ((h | h) | ⟨⟨h1, h2⟩, h3⟩)
          · subst h; exact Or.inr ⟨⟨Nat.le_refl _, fun m a b => by omega⟩, by omega⟩
          · exact Or.inl h
          · refine Or.inr ⟨⟨by omega, fun m a b => ?_⟩, h3⟩
            by_cases e : m = i
            · rw [e]; exact hst
            · exact h2 m (by omega) b
        · rintro (h | ⟨⟨h1, h2⟩, h3⟩)
          · exact Or.inl (Or.inr h)
          · by_cases e : k = i
            · exact Or.inl (Or.inl e)
            · exact Or.inr ⟨⟨by omega, fun m a b => h2 m (by omega) b⟩, h3⟩
      · rw [if_neg hst]
        refine ⟨?_, fun k => ?_⟩
        · intro k hk h1 h2
          rw [hset] at h1 ⊢
          rcases h1 with h1 | h1
          · rw [h1] at h2; exact absurd h2 hst
          · by_cases e : k + 1 = i
            · exact Or.inl e
            · exact Or.inr (hc k hk e h1 h2)
        · rw [hset]
          constructor
          · rintro (h | h)
            · subst h; exact Or.inr ⟨⟨Nat.le_refl _, fun m a b => by omega⟩, hi⟩
            · exact Or.inl h
          · rintro (h | ⟨⟨h1, h2⟩, h3⟩)
            · exact Or.inr h
            · by_cases e : k = i
              · exact Or.inl e
              · exact absurd (h2 i (Nat.le_refl _) (by omega)) hst

theorem closed_rep (is : List Item) (n : Nat) : closed is (List.replicate n false) := by
  intro k _ h _
  unfold gt at h
  simp [List.getD_eq_getElem?_getD, List.getElem?_replicate] at h
  split at h <;> simp at h

/-- What one state and a byte lead to. -/
def seed (is : List Item) (s : List Bool) (b i p : Nat) : Prop := gt s i ∧ fitAt is i b = true ∧ p = if starAt is i then i else i + 1

theorem step_spec (is : List Item) (s : List Bool) (b : Nat) : ∀ n, n ≤ is.length → closed is (stepN is s b n) ∧ ∀ k, gt (stepN is s b n) k ↔ ∃ i p, i < n ∧ seed is s b i p ∧ chain is p k ∧ k ≤ is.length
  | 0, _ => ⟨closed_rep is _, fun k => by
      constructor
      · intro h
        unfold gt at h
        simp [stepN, List.getD_eq_getElem?_getD, List.getElem?_replicate] at h
        split at h <;> simp at h
      · rintro ⟨i, p, h, _⟩; omega⟩
  | n + 1, hn => by
    obtain ⟨h1, h2⟩ := step_spec is s b n (by omega)
    simp only [stepN]
    by_cases hc : (s.getD n false && fitAt is n b) = true
    · rw [if_pos hc]
      simp only [Bool.and_eq_true] at hc
      obtain ⟨g1, g2⟩ := reach_spec is (is.length + 1) (if starAt is n then n else n + 1) (stepN is s b n) (stepN_len is s b n) (by split <;> omega) (by omega) (fun k hk _ a c => h1 k hk a c)
      refine ⟨g1, fun k => ?_⟩
      rw [g2 k, h2 k]
      constructor
      · rintro (⟨i, p, a, c, d⟩ | h)
        · exact ⟨i, p, by omega, c, d⟩
        · exact ⟨n, _, by omega, ⟨hc.1, hc.2, rfl⟩, h⟩
      · rintro ⟨i, p, a, c, d⟩
        by_cases e : i = n
        · subst e; rw [← c.2.2]; exact Or.inr d
        · exact Or.inl ⟨i, p, by omega, c, d⟩
    · rw [if_neg hc]
      refine ⟨h1, fun k => ?_⟩
      rw [h2 k]
      constructor
      · rintro ⟨i, p, a, c, d⟩; exact ⟨i, p, by omega, c, d⟩
      · rintro ⟨i, p, a, c, d⟩
        by_cases e : i = n
        · subst e; exact absurd (by simp only [Bool.and_eq_true]; exact ⟨c.1, c.2.1⟩) hc
        · exact ⟨i, p, by omega, c, d⟩

/-- Where so many items can end. -/
def endI (a : Bool) (is : List Item) (tx : List UInt8) (i : Nat) : Nat → Bool := endsE a tx (is.take i) (firstE a)

theorem endI_zero (a : Bool) (is : List Item) (tx : List UInt8) : endI a is tx 0 = firstE a := rfl

theorem endI_succ (a : Bool) {is : List Item} (tx : List UInt8) {i : Nat} {x : Item} (h : is[i]? = some x) : endI a is tx (i + 1) = nextE x.2 (fitTx tx x.1) (endI a is tx i) := by
  have hs : is.take (i + 1) = is.take i ++ [x] := by rw [List.take_add_one, h]; rfl
  have key : ∀ (l : List Item) (E : Nat → Bool), endsE a tx (l ++ [x]) E = nextE x.2 (fitTx tx x.1) (endsE a tx l E) := by
    intro l
    induction l with
    | nil => intro E; rfl
    | cons y l ih => intro E; simp only [List.cons_append, endsE]; exact ih _
  unfold endI; rw [hs, key]

/-- What the state i says ahead of the j-th byte. -/
def stI (a : Bool) (is : List Item) (tx : List UInt8) (i j : Nat) : Bool := if starAt is i then endI a is tx (i + 1) j else endI a is tx i j

def okSt (a : Bool) (is : List Item) (tx : List UInt8) (j : Nat) (s : List Bool) : Prop := s.length = is.length + 1 ∧ closed is s ∧ ∀ i, i ≤ is.length → (gt s i ↔ stI a is tx i j = true)

theorem item_of {is : List Item} {i : Nat} (h : i < is.length) : ∃ x, is[i]? = some x ∧ starAt is i = x.2 ∧ ∀ b, fitAt is i b = x.1.testBit b :=
  ⟨is[i], List.getElem?_eq_getElem h, by simp [starAt, List.getElem?_eq_getElem h], fun b => by simp [fitAt, List.getElem?_eq_getElem h]⟩

theorem endI_next (a : Bool) {is : List Item} {tx : List UInt8} {j : Nat} {c : UInt8} (hc : tx[j]? = some c) {i : Nat} (hi : i < is.length) :
    endI a is tx (i + 1) (j + 1) = ((starAt is i && endI a is tx i (j + 1)) || (stI a is tx i j && fitAt is i c.toNat)) := by
  obtain ⟨x, hx, h1, h2⟩ := item_of hi
  have hf : fitTx tx x.1 j = x.1.testBit c.toNat := by simp [fitTx, hc]
  have hE := endI_succ a tx hx
  unfold stI
  rw [hE, h1, h2]
  cases x.2 <;> simp [nextE, hf]

theorem endI_first (a : Bool) {is : List Item} {tx : List UInt8} {i : Nat} (hi : i < is.length) : endI a is tx (i + 1) 0 = (starAt is i && endI a is tx i 0) := by
  obtain ⟨x, hx, h1, h2⟩ := item_of hi
  rw [endI_succ a tx hx, h1]; rfl

theorem first_chain (a : Bool) (is : List Item) (tx : List UInt8) : ∀ i, i ≤ is.length → (endI a is tx i 0 = true ↔ chain is 0 i)
  | 0, _ => by simp [endI_zero, firstE, chain]
  | i + 1, h => by
    rw [endI_first a (by omega), Bool.and_eq_true, first_chain a is tx i (by omega)]
    constructor
    · rintro ⟨h1, _, h2⟩
      refine ⟨by omega, fun m a b => ?_⟩
      by_cases e : m = i
      · rw [e]; exact h1
      · exact h2 m a (by omega)
    · rintro ⟨_, h2⟩
      exact ⟨h2 i (by omega) (by omega), by omega, fun m a b => h2 m a (by omega)⟩

theorem ok_first (a : Bool) (is : List Item) (tx : List UInt8) : okSt a is tx 0 (reachM is (is.length + 1) 0 (List.replicate (is.length + 1) false)) := by
  obtain ⟨g1, g2⟩ := reach_spec is (is.length + 1) 0 (List.replicate (is.length + 1) false) (by simp) (by omega) (by omega) (fun k hk _ a c => closed_rep is _ k hk a c)
  refine ⟨by rw [reachM_len]; simp, g1, fun i hi => ?_⟩
  rw [g2 i]
  have hno : ¬ gt (List.replicate (is.length + 1) false) i := by
    unfold gt
    simp [List.getD_eq_getElem?_getD, List.getElem?_replicate]
    split <;> simp
  unfold stI
  by_cases hs : starAt is i = true
  · have := star_lt hs
    rw [if_pos hs, endI_first a this, hs, Bool.true_and, first_chain a is tx i hi]
    simp [hno, hi]
  · rw [if_neg hs, first_chain a is tx i hi]
    simp [hno, hi]

/-- Behind a byte: what is there is what can be. -/
theorem ok_next (a : Bool) {is : List Item} {tx : List UInt8} {j : Nat} {c : UInt8} (hc : tx[j]? = some c) {s t : List Bool} (hok : okSt a is tx j s) (hl : t.length = is.length + 1) (hcl : closed is t)
    (ht : ∀ k, k ≤ is.length → (gt t k ↔ (∃ i p, i < is.length ∧ seed is s c.toNat i p ∧ chain is p k) ∨ (a = false ∧ chain is 0 k))) : okSt a is tx (j + 1) t := by
  refine ⟨hl, hcl, ?_⟩
  -- arrivals: by the items ahead
  have arr : ∀ k, k ≤ is.length → (endI a is tx k (j + 1) = true ↔ (∃ i p, i < k ∧ i < is.length ∧ seed is s c.toNat i p ∧ chain is p k) ∨ (a = false ∧ chain is 0 k)) := by
    intro k
    induction k with
    | zero =>
      intro _
      rw [endI_zero]
      constructor
      · intro h; right; simp [firstE] at h; exact ⟨h, Nat.le_refl _, fun m a b => by omega⟩
      · rintro (⟨i, p, h, _⟩ | ⟨h, _⟩)
        · omega
        · simp [firstE, h]
    | succ k ih =>
      intro hk
      have ih := ih (by omega)
      have hst := hok.2.2 k (by omega)
      rw [endI_next a hc (show k < is.length by omega), Bool.or_eq_true, Bool.and_eq_true, Bool.and_eq_true, ih, ← hst]
      constructor
      · rintro (⟨h1, ⟨i, p, a1, a2, a3, a4⟩ | ⟨b1, b2⟩⟩ | ⟨h1, h2⟩)
        · refine Or.inl ⟨i, p, by omega, a2, a3, by have := a4.1; omega, fun m x y => ?_⟩
          by_cases e : m = k
          · rw [e]; exact h1
          · exact a4.2 m x (by omega)
        · refine Or.inr ⟨b1, by omega, fun m x y => ?_⟩
          by_cases e : m = k
          · rw [e]; exact h1
          · exact b2.2 m x (by omega)
        · refine Or.inl ⟨k, _, by omega, by omega, ⟨h1, h2, rfl⟩, by split <;> omega, fun m x y => ?_⟩
          by_cases hs : starAt is k = true
          · rw [if_pos hs] at x
            have : m = k := by omega
            rw [this]; exact hs
          · rw [if_neg hs] at x; omega
      · rintro (⟨i, p, a1, a2, a3, a4⟩ | ⟨b1, b2⟩)
        · by_cases e : i = k
          · subst e; exact Or.inr ⟨a3.1, a3.2.1⟩
          · have hp : p ≤ k := by have := a3.2.2; split at this <;> omega
            exact Or.inl ⟨a4.2 k hp (by omega), Or.inl ⟨i, p, by omega, a2, a3, hp, fun m x y => a4.2 m x (by omega)⟩⟩
        · exact Or.inl ⟨b2.2 k (by omega) (by omega), Or.inr ⟨b1, by omega, fun m x y => b2.2 m x (by omega)⟩⟩
  intro k hk
  rw [ht k hk]
  have hmain : (∃ i p, i < is.length ∧ seed is s c.toNat i p ∧ chain is p k) ↔ (∃ i p, i < k ∧ i < is.length ∧ seed is s c.toNat i p ∧ chain is p k) ∨ (starAt is k = true ∧ gt s k ∧ fitAt is k c.toNat = true) := by
    constructor
    · rintro ⟨i, p, a1, a2, a3⟩
      by_cases e : i < k
      · exact Or.inl ⟨i, p, e, a1, a2, a3⟩
      · have h1 := a3.1
        have h2 := a2.2.2
        by_cases hs : starAt is i = true
        · rw [if_pos hs] at h2
          have : i = k := by omega
          subst this; exact Or.inr ⟨hs, a2.1, a2.2.1⟩
        · rw [if_neg hs] at h2; omega
    · rintro (⟨i, p, _, a1, a2, a3⟩ | ⟨h1, h2, h3⟩)
      · exact ⟨i, p, a1, a2, a3⟩
      · exact ⟨k, k, star_lt h1, ⟨h2, h3, by rw [if_pos h1]⟩, Nat.le_refl _, fun m a b => by omega⟩
  rw [hmain]
  unfold stI
  have hst := hok.2.2 k hk
  by_cases hs : starAt is k = true
  · have hlt := star_lt hs
    rw [if_pos hs, endI_next a hc hlt, hs, Bool.true_and, Bool.or_eq_true, arr k hk, Bool.and_eq_true, ← hst]
    constructor
    · rintro ((h | ⟨_, h2, h3⟩) | h)
      · exact Or.inl (Or.inl h)
      · exact Or.inr ⟨h2, h3⟩
      · exact Or.inl (Or.inr h)
    · rintro ((h | h) | ⟨h2, h3⟩)
      · exact Or.inl (Or.inl h)
      · exact Or.inr h
      · exact Or.inl (Or.inr ⟨rfl, h2, h3⟩)
  · rw [if_neg hs, arr k hk]
    constructor
    · rintro ((h | ⟨h1, _⟩) | h)
      · exact Or.inl h
      · exact absurd h1 hs
      · exact Or.inr h
    · rintro (h | h)
      · exact Or.inl (Or.inl h)
      · exact Or.inr h

theorem star_end (is : List Item) : starAt is is.length = false := by simp [starAt]

theorem ok_step (a : Bool) {is : List Item} {tx : List UInt8} {j : Nat} {c : UInt8} (hc : tx[j]? = some c) {s : List Bool} (hok : okSt a is tx j s) :
    okSt a is tx (j + 1) (if a then stepM is s c.toNat else reachM is (is.length + 1) 0 (stepM is s c.toNat)) := by
  obtain ⟨g1, g2⟩ := step_spec is s c.toNat is.length (Nat.le_refl _)
  have hl := stepN_len is s c.toNat is.length
  cases a with
  | true =>
    refine ok_next true hc hok hl g1 fun k hk => ?_
    have := g2 k
    simp only [if_true, Bool.true_eq_false, false_and, or_false]
    refine this.trans ⟨?_, ?_⟩
    · rintro ⟨i, p, h1, h2, h3, _⟩; exact ⟨i, p, h1, h2, h3⟩
    · rintro ⟨i, p, h1, h2, h3⟩; exact ⟨i, p, h1, h2, h3, hk⟩
  | false =>
    obtain ⟨r1, r2⟩ := reach_spec is (is.length + 1) 0 (stepN is s c.toNat is.length) hl (by omega) (by omega) (fun k hk _ a b => g1 k hk a b)
    refine ok_next false hc hok (by rw [if_neg (by simp), reachM_len]; exact hl) (by rw [if_neg (by simp)]; exact r1) fun k hk => ?_
    rw [if_neg (by simp)]
    refine (r2 k).trans ?_
    rw [g2 k]
    simp only [true_and]
    constructor
    · rintro (⟨i, p, h1, h2, h3, _⟩ | ⟨h, _⟩)
      · exact Or.inl ⟨i, p, h1, h2, h3⟩
      · exact Or.inr h
    · rintro (⟨i, p, h1, h2, h3⟩ | h)
      · exact Or.inl ⟨i, p, h1, h2, h3, hk⟩
      · exact Or.inr ⟨h, hk⟩

theorem walk_spec (a z : Bool) (is : List Item) (tx : List UInt8) : ∀ (m j : Nat) (s : List Bool), tx.length = j + m → okSt a is tx j s →
    (walkM a z is (tx.drop j) s = true ↔ if z then endI a is tx is.length tx.length = true else ∃ k, j ≤ k ∧ k ≤ tx.length ∧ endI a is tx is.length k = true)
  | 0, j, s, hl, hok => by
    have hd : tx.drop j = [] := List.drop_eq_nil_of_le (by omega)
    have hlast := hok.2.2 is.length (Nat.le_refl _)
    unfold stI at hlast
    rw [star_end, if_neg (by simp)] at hlast
    have hj : j = tx.length := by omega
    rw [hd]
    simp only [walkM]
    unfold gt at hlast
    rw [hlast, hj]
    cases z with
    | true => simp
    | false =>
      simp only [Bool.false_eq_true, if_false]
      exact ⟨fun h => ⟨_, Nat.le_refl _, Nat.le_refl _, h⟩, fun ⟨k, h1, h2, h3⟩ => by rwa [show k = tx.length by omega] at h3⟩
  | m + 1, j, s, hl, hok => by
    have hjl : j < tx.length := by omega
    have hd : tx.drop j = tx[j] :: tx.drop (j + 1) := List.drop_eq_getElem_cons hjl
    have hlast := hok.2.2 is.length (Nat.le_refl _)
    unfold stI at hlast
    rw [star_end, if_neg (by simp)] at hlast
    unfold gt at hlast
    rw [hd]
    simp only [walkM]
    have ih := walk_spec a z is tx m (j + 1) _ (by omega) (ok_step a (List.getElem?_eq_getElem hjl) hok)
    cases z with
    | true =>
      simp only [Bool.not_true, Bool.and_false, Bool.false_eq_true, if_false, if_true] at ih ⊢
      exact ih
    | false =>
      simp only [Bool.not_false, Bool.and_true, Bool.false_eq_true, if_false] at ih ⊢
      by_cases h0 : s.getD is.length false = true
      · rw [if_pos h0]
        exact ⟨fun _ => ⟨j, Nat.le_refl _, by omega, hlast.1 h0⟩, fun _ => rfl⟩
      · rw [if_neg h0, ih]
        constructor
        · rintro ⟨k, h1, h2, h3⟩; exact ⟨k, by omega, h2, h3⟩
        · rintro ⟨k, h1, h2, h3⟩
          by_cases e : k = j
          · subst e; exact absurd (hlast.2 h3) h0
          · exact ⟨k, by omega, h2, h3⟩

theorem found_iff (a z : Bool) (is : List Item) (tx : List UInt8) : foundM a z is tx = true ↔ if z then endI a is tx is.length tx.length = true else ∃ k, k ≤ tx.length ∧ endI a is tx is.length k = true := by
  have := walk_spec a z is tx tx.length 0 _ (by omega) (ok_first a is tx)
  rw [List.drop_zero] at this
  unfold foundM
  rw [this]
  cases z with
  | true => simp
  | false => simp

theorem endI_all (a : Bool) (is : List Item) (tx : List UInt8) : endI a is tx is.length = endsE a tx is (firstE a) := by unfold endI; rw [List.take_length]

/-- Both find the same. -/
theorem found_ref (a z : Bool) (is : List Item) (tx : List UInt8) : foundM a z is tx = refM a z is tx := by
  rw [Bool.eq_iff_iff, found_iff, endI_all]
  unfold refM
  cases z with
  | true => simp
  | false =>
    simp only [Bool.false_eq_true, if_false, List.any_eq_true, List.mem_range]
    constructor
    · rintro ⟨k, h1, h2⟩; exact ⟨k, by omega, h2⟩
    · rintro ⟨k, h1, h2⟩; exact ⟨k, by omega, h2⟩

end Go.Proofs.Ytgnokggmbkhnbaa
