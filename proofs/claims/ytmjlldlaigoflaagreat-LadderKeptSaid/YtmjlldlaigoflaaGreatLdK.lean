/- Texts of mine, some in one. No statement of the seat is proved here. -/
import Derived.Test.YtmjlldlaigoflaaGreatLdBuild
import Derived.Test.YtmjlldlaigoflaaGreatRgL
import Derived.Test.YtmjlldlaigoflaaGreatLdLaw2
set_option linter.unusedSimpArgs false
set_option linter.unusedVariables false
namespace Go.Proofs.YtmjlldlaigoflaaGreat
open Go Go.Sx

def recS (i : Nat) (s : Slot) : Rec := (3, bs [], 0, 0, [], (i : Int), s.1, 0, s.2)
def slotsFrom : Nat → List Ring → List Rec
  | _, [] => []
  | i, r :: l => (liveM r.1 r.2).map (recS i) ++ slotsFrom (i + 1) l
def slotsM (m f : Int) (l : List Ring) : List Rec := if ladB m f l then slotsFrom 0 l else []

theorem slots_app : ∀ (a b : List Ring) (i : Nat), slotsFrom i (a ++ b) = slotsFrom i a ++ slotsFrom (i + a.length) b
  | [], b, i => rfl
  | r :: a, b, i => by
    simp only [List.cons_append, slotsFrom, slots_app a b (i + 1), List.append_assoc, List.length_cons]
    rw [show i + 1 + a.length = i + (a.length + 1) by omega]

theorem slots_succ {l : List Ring} {i : Nat} {r : Ring} (h : l[i]? = some r) : slotsFrom 0 (l.take (i + 1)) = slotsFrom 0 (l.take i) ++ (liveM r.1 r.2).map (recS i) := by
  have hi := (List.getElem?_eq_some_iff.1 h).1
  rw [List.take_add_one, h, slots_app]
  simp only [Option.toList_some, slotsFrom, List.append_nil, Nat.zero_add, List.length_take]
  rw [show min i l.length = i by omega]

theorem slots_len : ∀ (l : List Ring) (i : Nat), (∀ r ∈ l, rgB r = true) → (slotsFrom i l).length ≤ 400 * l.length
  | [], _, _ => by simp [slotsFrom]
  | r :: l, i, h => by
    have ih := slots_len l (i + 1) (fun x hx => h x (by simp [hx]))
    have h1 := live_len r.1 r.2
    have h2 := ringB_sized (h r (by simp))
    simp only [slotsFrom, List.length_append, List.length_map, List.length_cons]
    omega

/-- Slots that are set one by one. -/
def foldS (w : Int) (S : List Slot) (L : List Slot) : List Slot := L.foldl (fun S s => (setM w S s.1 s.2).1) S
/-- May a slot be set as it stands? -/
def fitS (w : Int) (s : Slot) : Prop := timedB s.1 = true ∧ s.1 % w = 0 ∧ s.2 ≠ -9223372036854775808

theorem bld_ring {w : Int} {i : Nat} {pre post : List Ring} (hi : pre.length = i) : ∀ (L : List Slot) (S : List Slot) (xs : List Rec), (∀ s ∈ L, fitS w s) → bldL (pre ++ (w, S) :: post) (L.map (recS i) ++ xs) = bldL (pre ++ (w, foldS w S L) :: post) xs
  | [], S, xs, _ => rfl
  | s :: L, S, xs, h => by
    obtain ⟨h1, h2, h3⟩ := h s (by simp)
    have hget : (pre ++ (w, S) :: post)[i]? = some (w, S) := by subst hi; simp
    have hpl : plainB (recS i s) = true := by simp [plainB, recS, nilL]
    have e1 : (recS i s).rung = (i : Int) := rfl
    have e2 : (recS i s).time = s.1 := rfl
    have e3 : (recS i s).value = s.2 := rfl
    have htk : takeB (pre ++ (w, S) :: post) (recS i s) = true := by
      unfold takeB
      rw [hpl, e1, e2, e3, Int.toNat_natCast, hget]
      simp [h1, h2, h3]
    have hput : putL (pre ++ (w, S) :: post) (recS i s) = pre ++ (w, (setM w S s.1 s.2).1) :: post := by
      unfold putL
      rw [e1, e2, e3, Int.toNat_natCast, hget]
      simp only [setR]
      subst hi
      rw [List.set_append_right _ _ (Nat.le_refl _), Nat.sub_self]; rfl
    rw [List.map_cons, List.cons_append, bld_step htk, hput, bld_ring hi L _ xs (fun x hx => h x (by simp [hx]))]
    rfl

/-- What a slot of a ring that is right has. -/
theorem slot_facts {w : Int} {l : List Slot} (h : ringB w l = true) {k : Nat} {s : Slot} (hk : l[k]? = some s) : (s.1 = -1 → s = (-1, 0)) ∧ (s.1 ≠ -1 → fitS w s ∧ placeM w l s.1 = k) := by
  simp only [ringB, Bool.and_eq_true] at h
  have hs := slotsB_get h.2 hk
  simp only [slotB, Bool.or_eq_true, Bool.and_eq_true, beq_iff_eq, bne_iff_ne, Int.zero_add] at hs
  constructor
  · intro h1
    rcases hs with hs | hs
    · exact Prod.ext hs.1 hs.2
    · have := timedB_iff.1 hs.1.1.1; omega
  · intro h1
    rcases hs with hs | hs
    · exact absurd hs.1 h1
    · refine ⟨⟨hs.1.1.1, hs.1.2, hs.1.1.2⟩, ?_⟩
      unfold placeM; rw [hs.2]; omega

theorem foldS_get {w : Int} {l : List Slot} (h : ringB w l = true) : ∀ (L S : List Slot), ringB w S = true → S.length = l.length → (∀ s ∈ L, s.1 ≠ -1 ∧ ∃ k : Nat, l[k]? = some s) →
    (foldS w S L).length = l.length ∧ ∀ k : Nat, (∀ s : Slot, l[k]? = some s → s ∈ L → (foldS w S L)[k]? = some s) ∧ ((∀ s : Slot, l[k]? = some s → s ∉ L) → (foldS w S L)[k]? = S[k]?)
  | [], S, _, hn, _ => ⟨hn, fun k => ⟨fun s _ hs => by simp at hs, fun _ => rfl⟩⟩
  | s :: L, S, hS, hn, hL => by
    obtain ⟨h1, j, hj⟩ := hL s (by simp)
    obtain ⟨⟨f1, f2, f3⟩, f4⟩ := (slot_facts h hj).2 h1
    have hpS : placeM w S s.1 = j := by rw [← f4]; unfold placeM; rw [hn]
    have hset : (setM w S s.1 s.2).1 = S.set j s := by rw [setM_ok hS f1 f3, f2, Int.sub_zero, hpS]
    have hr : ringB w (S.set j s) = true := by
      have := set_right hS f1 f3
      rwa [f2, Int.sub_zero, hpS] at this
    obtain ⟨g1, g2⟩ := foldS_get h L (S.set j s) hr (by simpa using hn) (fun x hx => hL x (by simp [hx]))
    have e : foldS w S (s :: L) = foldS w (S.set j s) L := by simp only [foldS, List.foldl_cons, hset]
    rw [e]
    have hjl : j < S.length := by rw [hn]; exact (List.getElem?_eq_some_iff.1 hj).1
    refine ⟨g1, fun k => ⟨fun x hx hm => ?_, fun hno => ?_⟩⟩
    · by_cases hxL : x ∈ L
      · exact (g2 k).1 x hx hxL
      · have hxs : x = s := by rcases List.mem_cons.1 hm with h | h; exact h; exact absurd h hxL
        subst hxs
        have hkj : k = j := by
          have hx2 := (slot_facts h hx).2 h1
          rw [f4] at hx2; exact hx2.2.symm
        subst hkj
        rw [(g2 k).2 (fun y hy hyL => by rw [hx] at hy; injection hy with hy; subst hy; exact hxL hyL)]
        simp [hjl]
    · rw [(g2 k).2 (fun x hx hm => hno x hx (by simp [hm])), List.getElem?_set]
      by_cases hkj : j = k
      · subst hkj; exact absurd (List.mem_cons_self) (hno s hj)
      · rw [if_neg hkj]

theorem live_mem {w : Int} {l : List Slot} (h : ringB w l = true) (s : Slot) : s ∈ liveM w l ↔ s ∈ l ∧ s.1 ≠ -1 := by
  unfold liveM
  rw [if_pos h, (sort_perm _).mem_iff, List.mem_filter]
  simp

/-- A ring is its live slots, set. -/
theorem foldS_live {w : Int} {l : List Slot} (h : ringB w l = true) : foldS w (List.replicate l.length (-1, 0)) (liveM w l) = l := by
  have hs := ringB_sized h
  have hz : szB (w, (l.length : Int)) = true := by
    simp only [ringB, Bool.and_eq_true] at h; exact h.1
  have hr : ringB w (List.replicate l.length (-1, 0)) = true := by
    have := (ring_new_ok hz).1
    simpa [newR, rgB] using this
  obtain ⟨g1, g2⟩ := foldS_get h (liveM w l) _ hr (by simp) (fun s hsm => by
    obtain ⟨m1, m2⟩ := (live_mem h s).1 hsm
    exact ⟨m2, List.getElem?_of_mem m1⟩)
  apply List.ext_getElem?
  intro k
  cases hk : l[k]? with
  | none => rw [List.getElem?_eq_none]; rw [g1]; exact List.getElem?_eq_none_iff.1 hk
  | some s =>
    by_cases h1 : s.1 = -1
    · rw [(g2 k).2 (fun x hx hm => by rw [hk] at hx; injection hx with hx; subst hx; exact ((live_mem h s).1 hm).2 h1)]
      rw [(slot_facts h hk).1 h1, List.getElem?_replicate, if_pos (List.getElem?_eq_some_iff.1 hk).1]
    · exact (g2 k).1 s hk ((live_mem h s).2 ⟨List.mem_of_getElem? hk, h1⟩)

theorem bld_all : ∀ (l pre : List Ring), (∀ r ∈ l, rgB r = true) → bldL (pre ++ l.map fun r => newR (rungM r)) (slotsFrom pre.length l) = some (pre ++ l)
  | [], pre, _ => by simp [slotsFrom, bldL]
  | r :: l, pre, h => by
    have hr : ringB r.1 r.2 = true := h r (by simp)
    have e : newR (rungM r) = (r.1, List.replicate r.2.length (-1, 0)) := by simp [newR, rungM]
    simp only [List.map_cons, slotsFrom]
    rw [e, bld_ring rfl (liveM r.1 r.2) _ _ (fun s hs => by
      obtain ⟨m1, m2⟩ := (live_mem hr s).1 hs
      obtain ⟨k, hk⟩ := List.getElem?_of_mem m1
      exact ((slot_facts hr hk).2 m2).1), foldS_live hr]
    have := bld_all l (pre ++ [r]) (fun x hx => h x (by simp [hx]))
    simp only [List.append_assoc, List.singleton_append, List.length_append, List.length_singleton] at this
    exact this

theorem bld_kept {m f : Int} {l : List Ring} (h : ladB m f l = true) : bldM (l.map rungM) m f (slotsM m f l) = ((m, f, l), 0) := by
  obtain ⟨p1, p2, p3, p4, p5⟩ := lad_parts h
  refine bld_some (by simp [p1, p3]) ?_
  have := bld_all l [] (fun r hr => List.all_eq_true.1 p2 r hr)
  simp only [List.nil_append, List.length_nil] at this
  unfold slotsM
  rw [if_pos h, List.map_map]
  exact this

theorem slots_inV {m f : Int} {l : List Ring} (hs : ∀ r ∈ l, InS r.2) : InV (slotsM m f l) := by
  unfold slotsM
  split
  · rename_i h
    obtain ⟨p1, p2, p3, p4, p5⟩ := lad_parts h
    have key : ∀ (k : List Ring) (i : Nat), i + k.length ≤ 4 → (∀ r ∈ k, InS r.2 ∧ rgB r = true) → InV (slotsFrom i k) := by
      intro k
      induction k with
      | nil => intro i _ _ x hx; simp [slotsFrom] at hx
      | cons r k ih =>
        intro i hi hk x hx
        simp only [slotsFrom, List.mem_append, List.mem_map, List.length_cons] at hx hi
        rcases hx with ⟨s, hsm, rfl⟩ | hx
        · obtain ⟨k1, k2⟩ := hk r (by simp)
          have := k1 s ((live_mem k2 s).1 hsm).1
          exact ⟨this, by simp only [recS, Rec.rung]; omega⟩
        · exact ih (i + 1) (by omega) (fun y hy => hk y (by simp [hy])) x hx
    exact key l 0 (by omega) (fun r hr => ⟨hs r hr, List.all_eq_true.1 p2 r hr⟩)
  · intro x hx; simp at hx

theorem map_len1 {α β : Type} (f : α → β) (l : List α) : (l.map f).length = l.length := List.length_map ..

/-- A record as it is laid: no rungs. -/
def recN (x : Rec) : List T := [.v (.int .i64 x.1), .v (.string x.2.1), .v (.int .i64 x.2.2.1), .v (.int .i64 x.2.2.2.1), .v (.slice none 0 0), .v (.int .i64 x.rung), .v (.int .i64 x.time), .v (.int .i64 x.2.2.2.2.2.2.2.1), .v (.int .i64 x.value)]

theorem recN_cells {A : Nat → Prop} {w : World} {b o : Nat} {x : Rec} (hx : x.2.2.2.2.1 = []) (h : CCells A w b o (recN x)) : CCells A w b o (recT x) := by
  simp only [recN, recT, CCells, hx, List.map_nil] at h ⊢
  obtain ⟨h0, h1, h2, h3, ⟨y, hy, hc⟩, h5⟩ := h
  refine ⟨h0, h1, h2, h3, ⟨y, hy, ?_⟩, h5⟩
  simp only [CT] at hc ⊢
  exact ⟨none, 0, hc.1, Nat.le_refl _, Or.inl trivial⟩

theorem recN_rows {A : Nat → Prop} {w : World} {b : Nat} : ∀ {l : List Rec} {o : Nat}, (∀ x ∈ l, x.2.2.2.2.1 = []) → CRows A w 9 b o (l.map recN) → CRows A w 9 b o (l.map recT)
  | [], _, _, _ => by simp [CRows]
  | x :: l, o, hx, h => by
    simp only [List.map_cons, CRows] at h ⊢
    exact ⟨⟨rfl, recN_cells (hx x (by simp)) h.1.2⟩, recN_rows (fun y hy => hx y (by simp [hy])) h.2⟩

/-- What answers records as they are laid answers them. -/
theorem Meets.recs {f : Nat} {args : List AV} {l : List Rec} (hx : ∀ x ∈ l, x.2.2.2.2.1 = []) (h : Meets Tryz.prog E0 f args [] (.t (.sl 9 (l.map recN))) []) : Meets Tryz.prog E0 f args [] (recL l) [] where
  shutIn := h.shutIn
  shutOut := shut0 rfl
  stay := h.stay
  runs := fun A φ w vals gi gA alt hH hargs => by
    have key : ∀ v w', (∃ A' φ', Fin A φ w [] (.t (.sl 9 (l.map recN))) [] v w' A' φ') → ∃ A' φ', Fin A φ w [] (recL l) [] v w' A' φ' := by
      rintro v w' ⟨A', φ', hf⟩
      refine ⟨A', φ', { hf with ca := ?_ }⟩
      have hc := hf.ca
      simp only [CA, CT] at hc ⊢
      obtain ⟨a, cap, rfl, h1, h2⟩ := hc
      refine ⟨a, cap, by simp, by simpa using h1, ?_⟩
      rcases h2 with h2 | ⟨b, o, h3, h4, h5⟩
      · exact Or.inl (by simpa using h2)
      · exact Or.inr ⟨b, o, h3, h4, recN_rows hx h5⟩
    rcases h.runs A φ w vals gi gA alt hH hargs with ⟨h1, h2⟩ | ⟨v, w', h1, h2⟩
    · exact Or.inl ⟨h1, h2.mono fun e w' ⟨v, he, hv⟩ => ⟨v, he, key v w' hv⟩⟩
    · exact Or.inr ⟨v, w', h1, key v w' h2⟩

theorem slots_plain : ∀ (l : List Ring) (i : Nat), ∀ x ∈ slotsFrom i l, x.2.2.2.2.1 = []
  | [], _, x, h => by simp [slotsFrom] at h
  | r :: l, i, x, h => by
    simp only [slotsFrom, List.mem_append, List.mem_map] at h
    rcases h with ⟨s, _, rfl⟩ | h
    · rfl
    · exact slots_plain l (i + 1) x h

/-- Records, and the first of some more. -/
def midS (i : Nat) (L : List Rec) (K : List Slot) (j : Nat) : List Rec := L ++ (K.take j).map (recS i)

theorem f_ladder_Slots (m f : Int) (l : List Ring) (hn : l.length ≤ maxLen) : Meets Tryz.prog E0 n_ladder_Slots [ladV m f l] [] (recL (slotsM m f l)) [] := by
  refine Meets.recs (by unfold slotsM; split; exact slots_plain l 0; simp) ?_
  refine m_ladder_Slots (by simp) (shut0 rfl) (shut0 rfl) (by simp) (by simp [keysOf]) ?_
  have b1 := f_ladder_Right m f l hn
  cases hr : ladB m f l
  · rw [hr] at b1
    have e : slotsM m f l = [] := by simp [slotsM, hr]
    rw [e]
    simp only [go_sem, s_ladder_Slots, ↓reduceIte, Nat.reduceEqDiff, Nat.reduceAdd, Nat.reduceLeDiff, reduceCtorEq, Nat.reduceLT, Int.reduceLT, Int.reduceLE, Int.reduceEq, Int.reduceToNat, Nat.reduceMul]
    refine Cl_plain b1 ?_
    simp only [go_sem, ↓reduceIte, Nat.reduceEqDiff, Nat.reduceAdd, Nat.reduceLeDiff, reduceCtorEq, Nat.reduceLT, Int.reduceLT, Int.reduceLE, Int.reduceEq, Int.reduceToNat, Nat.reduceMul]
    refine wends2 [] [] (by first | exact Or.inl rfl | exact Or.inr rfl) ?_ (by simp [AV.ids, idsL]) (by simp [stoS]) (by simp [keysOf]) (by simp [stoOf, keysOf] <;> assumption) (by simp [keysOf]) (by simp [keysOf])
    simp only [go_sem, r_ladder_Slots, exists_eq_left', Option.some.injEq, ↓reduceIte, Nat.reduceEqDiff, Nat.reduceAdd, Nat.reduceLeDiff, reduceCtorEq, Nat.reduceLT, Int.reduceLT, Int.reduceLE, Int.reduceEq, Int.reduceToNat, Nat.reduceMul]
    simp [wkV, wkL, slTrees, AV.asOwn, rowPart, stoOf, AV.isNil]
  · rw [hr] at b1
    obtain ⟨p1, p2, p3, p4, p5⟩ := lad_parts hr
    have e : slotsM m f l = slotsFrom 0 (l.take l.length) := by simp [slotsM, hr]
    rw [e]
    simp only [go_sem, s_ladder_Slots, ↓reduceIte, Nat.reduceEqDiff, Nat.reduceAdd, Nat.reduceLeDiff, reduceCtorEq, Nat.reduceLT, Int.reduceLT, Int.reduceLE, Int.reduceEq, Int.reduceToNat, Nat.reduceMul]
    refine Cl_plain b1 ?_
    simp only [go_sem, ↓reduceIte, Nat.reduceEqDiff, Nat.reduceAdd, Nat.reduceLeDiff, reduceCtorEq, Nat.reduceLT, Int.reduceLT, Int.reduceLE, Int.reduceEq, Int.reduceToNat, Nat.reduceMul]
    refine W_loop (fun i : Nat => l.length - i) (fun i => i ≤ l.length)
      (fun i => [(1, .ptr 100 0), (3, .own 999 9 0 (slotsFrom 0 (l.take i)).length (!(slotsFrom 0 (l.take i)).isEmpty)), (12, rgL l), (13, I l.length), (14, I i)])
      (fun i => [(100, .box [I m, I f, rgL l]), (999, .row 9 (!(slotsFrom 0 (l.take i)).isEmpty) ((slotsFrom 0 (l.take i)).map recN))])
      0 (Nat.zero_le _) ?_ ?_
    · rw [show slotsFrom 0 (l.take 0) = [] from rfl]
      exact (subL [(999, 888)] [] (by simp [envS, go_sem, wkV, wkL, AV.ids, idsL, keysOf, ren, stoOf, slTrees, AV.asOwn, rowPart, AV.isNil, map_len1] <;> assumption) (by simp [stoS, go_sem, wkV, wkL, wkO, AV.ids, Ob.ids, idsL, keysOf, ren, AV.one, stoOf, slTrees, AV.asOwn, rowPart, AV.isNil, map_len1] <;> assumption) (by simp [keysOf, ren]) (by simp [stoOf, keysOf, ren]) (by simp [keysOf, ren]) (by simp [keysOf, ren]))
    intro i hi
    simp only [go_sem, ↓reduceIte, Nat.reduceEqDiff, Nat.reduceAdd, Nat.reduceLeDiff, reduceCtorEq, Nat.reduceLT, Int.reduceLT, Int.reduceLE, Int.reduceEq, Int.reduceToNat, Nat.reduceMul]
    refine W_split rfl (fun h => ?_) (fun h => ?_)
    · simp at h
      obtain ⟨r, hget⟩ := get_of_lt h
      have ei : IntKind.i64.wrap ((i : Int) + 1) = ((i + 1 : Nat) : Int) := by rw [wrap_i64_of (by omega) (by omega)]; omega
      have hsucc := slots_succ hget
      have hlen := slots_len (l.take i) 0 (fun x hx => List.all_eq_true.1 p2 x (List.mem_of_mem_take hx))
      have hti : (l.take i).length ≤ 4 := by rw [List.length_take]; omega
      have hll := live_len r.1 r.2
      have hrs := ringB_sized (List.all_eq_true.1 p2 r (List.mem_of_getElem? hget))
      generalize hL : slotsFrom 0 (l.take i) = L at *
      generalize hK : liveM r.1 r.2 = K at *
      have bL := f_ring_Live r.1 r.2
      rw [hK] at bL
      simp only [go_sem, hget, rgT, ↓reduceIte, Nat.reduceEqDiff, Nat.reduceAdd, Nat.reduceLeDiff, reduceCtorEq, Nat.reduceLT, Int.reduceLT, Int.reduceLE, Int.reduceEq, Int.reduceToNat, Nat.reduceMul]
      refine Cl_plain bL ?_
      simp only [go_sem, ↓reduceIte, Nat.reduceEqDiff, Nat.reduceAdd, Nat.reduceLeDiff, reduceCtorEq, Nat.reduceLT, Int.reduceLT, Int.reduceLE, Int.reduceEq, Int.reduceToNat, Nat.reduceMul]
      refine W_loop (fun j : Nat => K.length - j) (fun j => j ≤ K.length)
        (fun j => [(1, .ptr 100 0), (3, .own 999 9 0 (midS i L K j).length (!(midS i L K j).isEmpty)), (4, I i), (12, rgL l), (13, I l.length), (14, I i), (20, slL K), (21, I K.length), (22, I j)])
        (fun j => [(100, .box [I m, I f, rgL l]), (999, .row 9 (!(midS i L K j).isEmpty) ((midS i L K j).map recN))])
        0 (Nat.zero_le _) ?_ ?_
      · rw [show midS i L K 0 = L by simp [midS]]
        exact (subL [] [] (by simp [envS, go_sem, wkV, wkL, AV.ids, idsL, keysOf, ren, stoOf, slTrees, AV.asOwn, rowPart, AV.isNil, map_len1] <;> assumption) (by simp [stoS, go_sem, wkV, wkL, wkO, AV.ids, Ob.ids, idsL, keysOf, ren, AV.one, stoOf, slTrees, AV.asOwn, rowPart, AV.isNil, map_len1] <;> assumption) (by simp [keysOf, ren]) (by simp [stoOf, keysOf, ren]) (by simp [keysOf, ren]) (by simp [keysOf, ren]))
      intro j hj
      simp only [go_sem, ↓reduceIte, Nat.reduceEqDiff, Nat.reduceAdd, Nat.reduceLeDiff, reduceCtorEq, Nat.reduceLT, Int.reduceLT, Int.reduceLE, Int.reduceEq, Int.reduceToNat, Nat.reduceMul]
      refine W_split rfl (fun h2 => ?_) (fun h2 => ?_)
      · simp at h2
        obtain ⟨s, hs⟩ := get_of_lt h2
        have ej : IntKind.i64.wrap ((j : Int) + 1) = ((j + 1 : Nat) : Int) := by rw [wrap_i64_of (by omega) (by omega)]; omega
        have hM : midS i L K (j + 1) = midS i L K j ++ [recS i s] := by unfold midS; rw [List.take_add_one, hs]; simp
        have hMl : (midS i L K j).length ≤ 4000 := by unfold midS; simp; omega
        have hMe : (midS i L K (j + 1)).isEmpty = false := by rw [hM]; simp
        have hMn : (midS i L K (j + 1)).length = (midS i L K j).length + 1 := by rw [hM]; simp
        have em : (midS i L K j).map recN ++ [[.v (.int .i64 3), .v (.string (bs [])), .v (.int .i64 0), .v (.int .i64 0), .v (.slice none 0 0), .v (.int .i64 (i : Int)), .v (.int .i64 s.1), .v (.int .i64 0), .v (.int .i64 s.2)]] = (midS i L K (j + 1)).map recN := by rw [hM, List.map_append]; rfl
        generalize midS i L K j = M at *
        have c1 : (M.length + 1) * 96 ≤ 2 ^ 47 := by omega
        have c2 : M.length + 1 < 2 ^ 47 := by omega
        have hlm : (M.map recN).length = M.length := by simp
        simp only [go_sem, hs, slT, ↓reduceIte, Nat.reduceEqDiff, Nat.reduceAdd, Nat.reduceLeDiff, reduceCtorEq, Nat.reduceLT, Int.reduceLT, Int.reduceLE, Int.reduceEq, Int.reduceToNat, Nat.reduceMul]
        simp only [go_sem, c1, c2, em, hlm, ej, ↓reduceIte, Nat.reduceEqDiff, Nat.reduceAdd, Nat.reduceLeDiff, reduceCtorEq, Nat.reduceLT, Int.reduceLT, Int.reduceLE, Int.reduceEq, Int.reduceToNat, Nat.reduceMul]
        refine rd_of (j + 1) (by first | omega | (simp only; omega)) (by first | omega | (simp only; omega)) ?_
        rw [hMe, hMn]
        exact (subL [(999, 135)] [] (by simp [envS, go_sem, wkV, wkL, AV.ids, idsL, keysOf, ren, stoOf, slTrees, AV.asOwn, rowPart, AV.isNil, map_len1] <;> assumption) (by simp [stoS, go_sem, wkV, wkL, wkO, AV.ids, Ob.ids, idsL, keysOf, ren, AV.one, stoOf, slTrees, AV.asOwn, rowPart, AV.isNil, map_len1] <;> assumption) (by simp [keysOf, ren]) (by simp [stoOf, keysOf, ren]) (by simp [keysOf, ren]) (by simp [keysOf, ren]))
      · have e : j = K.length := by simp at h2; omega
        subst e
        rw [show midS i L K K.length = L ++ K.map (recS i) by unfold midS; rw [List.take_length], ← hsucc]
        simp only [go_sem, ei, ↓reduceIte, Nat.reduceEqDiff, Nat.reduceAdd, Nat.reduceLeDiff, reduceCtorEq, Nat.reduceLT, Int.reduceLT, Int.reduceLE, Int.reduceEq, Int.reduceToNat, Nat.reduceMul]
        refine rd_of (i + 1) (by first | omega | (simp only; omega)) (by first | omega | (simp only; omega)) ?_
        exact (subL [] [] (by simp [envS, go_sem, wkV, wkL, AV.ids, idsL, keysOf, ren, stoOf, slTrees, AV.asOwn, rowPart, AV.isNil, map_len1] <;> assumption) (by simp [stoS, go_sem, wkV, wkL, wkO, AV.ids, Ob.ids, idsL, keysOf, ren, AV.one, stoOf, slTrees, AV.asOwn, rowPart, AV.isNil, map_len1] <;> assumption) (by simp [keysOf, ren]) (by simp [stoOf, keysOf, ren]) (by simp [keysOf, ren]) (by simp [keysOf, ren]))
    · have e : i = l.length := by simp at h; omega
      subst e
      simp only [go_sem, ↓reduceIte, Nat.reduceEqDiff, Nat.reduceAdd, Nat.reduceLeDiff, reduceCtorEq, Nat.reduceLT, Int.reduceLT, Int.reduceLE, Int.reduceEq, Int.reduceToNat, Nat.reduceMul]
      cases hL : slotsFrom 0 (l.take l.length) with
      | nil =>
        refine wends2 [] [] (by first | exact Or.inl rfl | exact Or.inr rfl) ?_ (by simp [AV.ids, idsL]) (by simp [stoS]) (by simp [keysOf]) (by simp [stoOf, keysOf] <;> assumption) (by simp [keysOf]) (by simp [keysOf])
        simp only [go_sem, r_ladder_Slots, exists_eq_left', Option.some.injEq, ↓reduceIte, Nat.reduceEqDiff, Nat.reduceAdd, Nat.reduceLeDiff, reduceCtorEq, Nat.reduceLT, Int.reduceLT, Int.reduceLE, Int.reduceEq, Int.reduceToNat, Nat.reduceMul]
        simp [wkV, wkL, slTrees, AV.asOwn, rowPart, stoOf, AV.isNil]
      | cons x L =>
        refine wends2 [] [999] (by first | exact Or.inl rfl | exact Or.inr rfl) ?_ (by simp [AV.ids, idsL]) (by simp [stoS]) (by simp [keysOf]) (by simp [stoOf, keysOf] <;> assumption) (by simp [keysOf]) (by simp [keysOf])
        simp only [go_sem, r_ladder_Slots, exists_eq_left', Option.some.injEq, ↓reduceIte, Nat.reduceEqDiff, Nat.reduceAdd, Nat.reduceLeDiff, reduceCtorEq, Nat.reduceLT, Int.reduceLT, Int.reduceLE, Int.reduceEq, Int.reduceToNat, Nat.reduceMul]
        simp [wkV, wkL, slTrees, AV.asOwn, rowPart, stoOf, AV.isNil, List.take_of_length_le]

theorem f_ref14_Slots (m f : Int) (l : List Ring) (hn : l.length ≤ maxLen) : Meets Tryz.prog E0 n_ref14_Slots [ladV m f l] [] (recL (slotsM m f l)) [] := by
  refine Meets.recs (by unfold slotsM; split; exact slots_plain l 0; simp) ?_
  refine m_ref14_Slots (by simp) (shut0 rfl) (shut0 rfl) (by simp) (by simp [keysOf]) ?_
  have b1 := f_ref14_Right m f l hn
  cases hr : ladB m f l
  · rw [hr] at b1
    have e : slotsM m f l = [] := by simp [slotsM, hr]
    rw [e]
    simp only [go_sem, s_ref14_Slots, ↓reduceIte, Nat.reduceEqDiff, Nat.reduceAdd, Nat.reduceLeDiff, reduceCtorEq, Nat.reduceLT, Int.reduceLT, Int.reduceLE, Int.reduceEq, Int.reduceToNat, Nat.reduceMul]
    refine Cl_plain b1 ?_
    simp only [go_sem, ↓reduceIte, Nat.reduceEqDiff, Nat.reduceAdd, Nat.reduceLeDiff, reduceCtorEq, Nat.reduceLT, Int.reduceLT, Int.reduceLE, Int.reduceEq, Int.reduceToNat, Nat.reduceMul]
    refine wends2 [] [] (by first | exact Or.inl rfl | exact Or.inr rfl) ?_ (by simp [AV.ids, idsL]) (by simp [stoS]) (by simp [keysOf]) (by simp [stoOf, keysOf] <;> assumption) (by simp [keysOf]) (by simp [keysOf])
    simp only [go_sem, r_ref14_Slots, exists_eq_left', Option.some.injEq, ↓reduceIte, Nat.reduceEqDiff, Nat.reduceAdd, Nat.reduceLeDiff, reduceCtorEq, Nat.reduceLT, Int.reduceLT, Int.reduceLE, Int.reduceEq, Int.reduceToNat, Nat.reduceMul]
    simp [wkV, wkL, slTrees, AV.asOwn, rowPart, stoOf, AV.isNil]
  · rw [hr] at b1
    obtain ⟨p1, p2, p3, p4, p5⟩ := lad_parts hr
    have e : slotsM m f l = slotsFrom 0 (l.take l.length) := by simp [slotsM, hr]
    rw [e]
    simp only [go_sem, s_ref14_Slots, ↓reduceIte, Nat.reduceEqDiff, Nat.reduceAdd, Nat.reduceLeDiff, reduceCtorEq, Nat.reduceLT, Int.reduceLT, Int.reduceLE, Int.reduceEq, Int.reduceToNat, Nat.reduceMul]
    refine Cl_plain b1 ?_
    simp only [go_sem, ↓reduceIte, Nat.reduceEqDiff, Nat.reduceAdd, Nat.reduceLeDiff, reduceCtorEq, Nat.reduceLT, Int.reduceLT, Int.reduceLE, Int.reduceEq, Int.reduceToNat, Nat.reduceMul]
    refine W_loop (fun i : Nat => l.length - i) (fun i => i ≤ l.length)
      (fun i => [(1, .ptr 100 0), (3, .own 999 9 0 (slotsFrom 0 (l.take i)).length (!(slotsFrom 0 (l.take i)).isEmpty)), (4, I i)])
      (fun i => [(100, .box [I m, I f, rgL l]), (999, .row 9 (!(slotsFrom 0 (l.take i)).isEmpty) ((slotsFrom 0 (l.take i)).map recN))])
      0 (Nat.zero_le _) ?_ ?_
    · rw [show slotsFrom 0 (l.take 0) = [] from rfl]
      exact (subL [(999, 888)] [] (by simp [envS, go_sem, wkV, wkL, AV.ids, idsL, keysOf, ren, stoOf, slTrees, AV.asOwn, rowPart, AV.isNil] <;> assumption) (by simp [stoS, go_sem, wkV, wkL, wkO, AV.ids, Ob.ids, idsL, keysOf, ren, AV.one, stoOf, slTrees, AV.asOwn, rowPart, AV.isNil] <;> assumption) (by simp [keysOf, ren]) (by simp [stoOf, keysOf, ren]) (by simp [keysOf, ren]) (by simp [keysOf, ren]))
    intro i hi
    simp only [go_sem, ↓reduceIte, Nat.reduceEqDiff, Nat.reduceAdd, Nat.reduceLeDiff, reduceCtorEq, Nat.reduceLT, Int.reduceLT, Int.reduceLE, Int.reduceEq, Int.reduceToNat, Nat.reduceMul]
    refine W_split rfl (fun h => ?_) (fun h => ?_)
    · simp at h
      obtain ⟨r, hget⟩ := get_of_lt h
      have ei : IntKind.i64.wrap ((i : Int) + 1) = ((i + 1 : Nat) : Int) := by rw [wrap_i64_of (by omega) (by omega)]; omega
      have hsucc := slots_succ hget
      have hlen := slots_len (l.take i) 0 (fun x hx => List.all_eq_true.1 p2 x (List.mem_of_mem_take hx))
      have hti : (l.take i).length ≤ 4 := by rw [List.length_take]; omega
      have hll := live_len r.1 r.2
      have hrs := ringB_sized (List.all_eq_true.1 p2 r (List.mem_of_getElem? hget))
      generalize hL : slotsFrom 0 (l.take i) = L at *
      generalize hK : liveM r.1 r.2 = K at *
      have bL := f_ref13_Live r.1 r.2
      rw [hK] at bL
      simp only [go_sem, hget, rgT, ↓reduceIte, Nat.reduceEqDiff, Nat.reduceAdd, Nat.reduceLeDiff, reduceCtorEq, Nat.reduceLT, Int.reduceLT, Int.reduceLE, Int.reduceEq, Int.reduceToNat, Nat.reduceMul]
      refine Cl_plain bL ?_
      simp only [go_sem, ↓reduceIte, Nat.reduceEqDiff, Nat.reduceAdd, Nat.reduceLeDiff, reduceCtorEq, Nat.reduceLT, Int.reduceLT, Int.reduceLE, Int.reduceEq, Int.reduceToNat, Nat.reduceMul]
      refine W_loop (fun j : Nat => K.length - j) (fun j => j ≤ K.length)
        (fun j => [(1, .ptr 100 0), (3, .own 999 9 0 (midS i L K j).length (!(midS i L K j).isEmpty)), (4, I i), (5, slL K), (6, I j)])
        (fun j => [(100, .box [I m, I f, rgL l]), (999, .row 9 (!(midS i L K j).isEmpty) ((midS i L K j).map recN))])
        0 (Nat.zero_le _) ?_ ?_
      · rw [show midS i L K 0 = L by simp [midS]]
        exact (subL [] [] (by simp [envS, go_sem, wkV, wkL, AV.ids, idsL, keysOf, ren, stoOf, slTrees, AV.asOwn, rowPart, AV.isNil] <;> assumption) (by simp [stoS, go_sem, wkV, wkL, wkO, AV.ids, Ob.ids, idsL, keysOf, ren, AV.one, stoOf, slTrees, AV.asOwn, rowPart, AV.isNil] <;> assumption) (by simp [keysOf, ren]) (by simp [stoOf, keysOf, ren]) (by simp [keysOf, ren]) (by simp [keysOf, ren]))
      intro j hj
      simp only [go_sem, ↓reduceIte, Nat.reduceEqDiff, Nat.reduceAdd, Nat.reduceLeDiff, reduceCtorEq, Nat.reduceLT, Int.reduceLT, Int.reduceLE, Int.reduceEq, Int.reduceToNat, Nat.reduceMul]
      refine W_split rfl (fun h2 => ?_) (fun h2 => ?_)
      · simp at h2
        obtain ⟨s, hs⟩ := get_of_lt h2
        have ej : IntKind.i64.wrap ((j : Int) + 1) = ((j + 1 : Nat) : Int) := by rw [wrap_i64_of (by omega) (by omega)]; omega
        have hM : midS i L K (j + 1) = midS i L K j ++ [recS i s] := by unfold midS; rw [List.take_add_one, hs]; simp
        have hMl : (midS i L K j).length ≤ 4000 := by unfold midS; simp; omega
        have hMe : (midS i L K (j + 1)).isEmpty = false := by rw [hM]; simp
        have hMn : (midS i L K (j + 1)).length = (midS i L K j).length + 1 := by rw [hM]; simp
        have em : (midS i L K j).map recN ++ [[.v (.int .i64 3), .v (.string (bs [])), .v (.int .i64 0), .v (.int .i64 0), .v (.slice none 0 0), .v (.int .i64 (i : Int)), .v (.int .i64 s.1), .v (.int .i64 0), .v (.int .i64 s.2)]] = (midS i L K (j + 1)).map recN := by rw [hM, List.map_append]; rfl
        generalize midS i L K j = M at *
        have c1 : (M.length + 1) * 96 ≤ 2 ^ 47 := by omega
        have c2 : M.length + 1 < 2 ^ 47 := by omega
        have hlm : (M.map recN).length = M.length := by simp
        simp only [go_sem, hs, slT, ↓reduceIte, Nat.reduceEqDiff, Nat.reduceAdd, Nat.reduceLeDiff, reduceCtorEq, Nat.reduceLT, Int.reduceLT, Int.reduceLE, Int.reduceEq, Int.reduceToNat, Nat.reduceMul]
        ((try (with_reducible refine R_fin (by repeat' (first | exact okp0 | refine okp rfl rfl rfl ?_)) ?_)); (try simp only [go_sem, hs, slT, c1, c2, em, hlm, ej, ↓reduceIte, Nat.reduceEqDiff, Nat.reduceAdd, Nat.reduceLeDiff, reduceCtorEq, Nat.reduceLT, Int.reduceLT, Int.reduceLE, Int.reduceEq, Int.reduceToNat, Nat.reduceMul]))
        ((try (with_reducible refine R_fin (by repeat' (first | exact okp0 | refine okp rfl rfl rfl ?_)) ?_)); (try simp only [go_sem, c1, c2, em, hlm, ej, ↓reduceIte, Nat.reduceEqDiff, Nat.reduceAdd, Nat.reduceLeDiff, reduceCtorEq, Nat.reduceLT, Int.reduceLT, Int.reduceLE, Int.reduceEq, Int.reduceToNat, Nat.reduceMul]))
        ((try (with_reducible refine R_fin (by repeat' (first | exact okp0 | refine okp rfl rfl rfl ?_)) ?_)); (try simp only [go_sem, ej, ↓reduceIte, Nat.reduceEqDiff, Nat.reduceAdd, Nat.reduceLeDiff, reduceCtorEq, Nat.reduceLT, Int.reduceLT, Int.reduceLE, Int.reduceEq, Int.reduceToNat, Nat.reduceMul]))
        refine rd_of (j + 1) (by first | omega | (simp only; omega)) (by first | omega | (simp only; omega)) ?_
        rw [hMe, hMn]
        exact (subL [(999, 140)] [] (by simp [envS, go_sem, wkV, wkL, AV.ids, idsL, keysOf, ren, stoOf, slTrees, AV.asOwn, rowPart, AV.isNil] <;> assumption) (by simp [stoS, go_sem, wkV, wkL, wkO, AV.ids, Ob.ids, idsL, keysOf, ren, AV.one, stoOf, slTrees, AV.asOwn, rowPart, AV.isNil] <;> assumption) (by simp [keysOf, ren]) (by simp [stoOf, keysOf, ren]) (by simp [keysOf, ren]) (by simp [keysOf, ren]))
      · have e : j = K.length := by simp at h2; omega
        subst e
        rw [show midS i L K K.length = L ++ K.map (recS i) by unfold midS; rw [List.take_length], ← hsucc]
        simp only [go_sem, ei, ↓reduceIte, Nat.reduceEqDiff, Nat.reduceAdd, Nat.reduceLeDiff, reduceCtorEq, Nat.reduceLT, Int.reduceLT, Int.reduceLE, Int.reduceEq, Int.reduceToNat, Nat.reduceMul]
        refine rd_of (i + 1) (by first | omega | (simp only; omega)) (by first | omega | (simp only; omega)) ?_
        exact (subL [] [] (by simp [envS, go_sem, wkV, wkL, AV.ids, idsL, keysOf, ren, stoOf, slTrees, AV.asOwn, rowPart, AV.isNil] <;> assumption) (by simp [stoS, go_sem, wkV, wkL, wkO, AV.ids, Ob.ids, idsL, keysOf, ren, AV.one, stoOf, slTrees, AV.asOwn, rowPart, AV.isNil] <;> assumption) (by simp [keysOf, ren]) (by simp [stoOf, keysOf, ren]) (by simp [keysOf, ren]) (by simp [keysOf, ren]))
    · have e : i = l.length := by simp at h; omega
      subst e
      simp only [go_sem, ↓reduceIte, Nat.reduceEqDiff, Nat.reduceAdd, Nat.reduceLeDiff, reduceCtorEq, Nat.reduceLT, Int.reduceLT, Int.reduceLE, Int.reduceEq, Int.reduceToNat, Nat.reduceMul]
      cases hL : slotsFrom 0 (l.take l.length) with
      | nil =>
        refine wends2 [] [] (by first | exact Or.inl rfl | exact Or.inr rfl) ?_ (by simp [AV.ids, idsL]) (by simp [stoS]) (by simp [keysOf]) (by simp [stoOf, keysOf] <;> assumption) (by simp [keysOf]) (by simp [keysOf])
        simp only [go_sem, r_ref14_Slots, exists_eq_left', Option.some.injEq, ↓reduceIte, Nat.reduceEqDiff, Nat.reduceAdd, Nat.reduceLeDiff, reduceCtorEq, Nat.reduceLT, Int.reduceLT, Int.reduceLE, Int.reduceEq, Int.reduceToNat, Nat.reduceMul]
        simp [wkV, wkL, slTrees, AV.asOwn, rowPart, stoOf, AV.isNil]
      | cons x L =>
        refine wends2 [] [999] (by first | exact Or.inl rfl | exact Or.inr rfl) ?_ (by simp [AV.ids, idsL]) (by simp [stoS]) (by simp [keysOf]) (by simp [stoOf, keysOf] <;> assumption) (by simp [keysOf]) (by simp [keysOf])
        simp only [go_sem, r_ref14_Slots, exists_eq_left', Option.some.injEq, ↓reduceIte, Nat.reduceEqDiff, Nat.reduceAdd, Nat.reduceLeDiff, reduceCtorEq, Nat.reduceLT, Int.reduceLT, Int.reduceLE, Int.reduceEq, Int.reduceToNat, Nat.reduceMul]
        simp [wkV, wkL, slTrees, AV.asOwn, rowPart, stoOf, AV.isNil, List.take_of_length_le]

theorem f_ref08_SameRungs (l : List Rung) (hn : l.length ≤ maxLen) : Meets Tryz.prog E0 n_ref08_SameRungs [slL l, slL l] [] (Bo true) [] := by
  refine m_ref08_SameRungs (by simp) (shut0 rfl) (shut0 rfl) (by simp) (by simp [keysOf]) ?_
  have hn2 : l.length ≤ 9223372036854775807 := hn
  have d1 : decide (l.length = l.length) = true := decide_eq_true rfl
  simp only [go_sem, s_ref08_SameRungs, d1, ↓reduceIte, Nat.reduceEqDiff, Nat.reduceAdd, Nat.reduceLeDiff, reduceCtorEq, Nat.reduceLT, Int.reduceLT, Int.reduceLE, Int.reduceEq, Int.reduceToNat, Nat.reduceMul]
  refine W_loop (fun i : Nat => l.length - i) (fun i => i ≤ l.length)
    (fun i => [(0, slL l), (1, slL l), (5, I i)]) (fun _ => []) 0 (Nat.zero_le _) (subL [] [] (by simp [envS, go_sem, wkV, wkL, AV.ids, idsL, keysOf, ren]) (by simp [stoS, go_sem, wkV, wkL, wkO, AV.ids, Ob.ids, idsL, keysOf, ren, AV.one]) (by simp [keysOf, ren]) (by simp) (by simp [keysOf]) (by simp [keysOf])) ?_
  intro i hi
  simp only [go_sem, ↓reduceIte, Nat.reduceEqDiff, Nat.reduceAdd, Nat.reduceLeDiff, reduceCtorEq, Nat.reduceLT, Int.reduceLT, Int.reduceLE, Int.reduceEq, Int.reduceToNat, Nat.reduceMul]
  refine W_split rfl (fun h => ?_) (fun h => ?_)
  · simp at h
    obtain ⟨r, hget⟩ := get_of_lt h
    have ei : IntKind.i64.wrap ((i : Int) + 1) = ((i + 1 : Nat) : Int) := by rw [wrap_i64_of (by omega) (by omega)]; omega
    simp only [go_sem, hget, slT, beq_self_eq_true, ↓reduceIte, Nat.reduceEqDiff, Nat.reduceAdd, Nat.reduceLeDiff, reduceCtorEq, Nat.reduceLT, Int.reduceLT, Int.reduceLE, Int.reduceEq, Int.reduceToNat, Nat.reduceMul]
    ((try (with_reducible refine R_fin (by repeat' (first | exact okp0 | refine okp rfl rfl rfl ?_)) ?_)); (try simp only [go_sem, ei, ↓reduceIte, Nat.reduceEqDiff, Nat.reduceAdd, Nat.reduceLeDiff, reduceCtorEq, Nat.reduceLT, Int.reduceLT, Int.reduceLE, Int.reduceEq, Int.reduceToNat, Nat.reduceMul]))
    exact rd_of (i + 1) (by first | omega | (simp only; omega)) (by first | omega | (simp only; omega)) (subL [] [] (by simp [envS, go_sem, wkV, wkL, AV.ids, idsL, keysOf, ren]) (by simp [stoS, go_sem, wkV, wkL, wkO, AV.ids, Ob.ids, idsL, keysOf, ren, AV.one]) (by simp [keysOf, ren]) (by simp) (by simp [keysOf]) (by simp [keysOf]))
  · simp only [go_sem, ↓reduceIte, Nat.reduceEqDiff, Nat.reduceAdd, Nat.reduceLeDiff, reduceCtorEq, Nat.reduceLT, Int.reduceLT, Int.reduceLE, Int.reduceEq, Int.reduceToNat, Nat.reduceMul]
    refine wends (by first | exact Or.inl rfl | exact Or.inr rfl) ?_ (by first | rfl | simp [AV.ids, idsL])
    simp only [go_sem, r_ref08_SameRungs, ↓reduceIte, Nat.reduceEqDiff, Nat.reduceAdd, Nat.reduceLeDiff, reduceCtorEq, Nat.reduceLT, Int.reduceLT, Int.reduceLE, Int.reduceEq, Int.reduceToNat, Nat.reduceMul]

theorem f_ref08_Same (x : Rec) (hn : x.2.2.2.2.1.length ≤ maxLen) : Meets Tryz.prog E0 n_ref08_Same [.ag ((recT x).map .t), .ag ((recT x).map .t)] [] (Bo true) [] := by
  refine m_ref08_Same (by simp) (shut0 rfl) (shut0 rfl) (by simp) (by simp [keysOf]) ?_
  have b1 := f_ref08_SameRungs x.2.2.2.2.1 hn
  have e1 : binStr .eql x.2.1 x.2.1 = some (.bool true) := by simp [binStr]
  have e2 : ∀ i : Int, decide (i = i) = true := fun i => decide_eq_true rfl
  simp only [recT, List.map]
  simp only [go_sem, s_ref08_Same, e1, e2, ↓reduceIte, Nat.reduceEqDiff, Nat.reduceAdd, Nat.reduceLeDiff, reduceCtorEq, Nat.reduceLT, Int.reduceLT, Int.reduceLE, Int.reduceEq, Int.reduceToNat, Nat.reduceMul]
  refine Cl_plain b1 ?_
  simp only [go_sem, e1, e2, ↓reduceIte, Nat.reduceEqDiff, Nat.reduceAdd, Nat.reduceLeDiff, reduceCtorEq, Nat.reduceLT, Int.reduceLT, Int.reduceLE, Int.reduceEq, Int.reduceToNat, Nat.reduceMul]
  refine wends (by first | exact Or.inl rfl | exact Or.inr rfl) ?_ (by first | rfl | simp [AV.ids, idsL])
  simp only [go_sem, r_ref08_Same, ↓reduceIte, Nat.reduceEqDiff, Nat.reduceAdd, Nat.reduceLeDiff, reduceCtorEq, Nat.reduceLT, Int.reduceLT, Int.reduceLE, Int.reduceEq, Int.reduceToNat, Nat.reduceMul]

theorem f_ref08_SameList (l : List Rec) (hn : l.length ≤ maxLen) (hx : ∀ x ∈ l, x.2.2.2.2.1.length ≤ maxLen) : Meets Tryz.prog E0 n_ref08_SameList [recL l, recL l] [] (Bo true) [] := by
  refine m_ref08_SameList (by simp) (shut0 rfl) (shut0 rfl) (by simp) (by simp [keysOf]) ?_
  have hn2 : l.length ≤ 9223372036854775807 := hn
  have d1 : decide (l.length = l.length) = true := decide_eq_true rfl
  simp only [go_sem, s_ref08_SameList, d1, ↓reduceIte, Nat.reduceEqDiff, Nat.reduceAdd, Nat.reduceLeDiff, reduceCtorEq, Nat.reduceLT, Int.reduceLT, Int.reduceLE, Int.reduceEq, Int.reduceToNat, Nat.reduceMul]
  refine W_loop (fun i : Nat => l.length - i) (fun i => i ≤ l.length)
    (fun i => [(0, recL l), (1, recL l), (5, I i)]) (fun _ => []) 0 (Nat.zero_le _) (subL [] [] (by simp [envS, go_sem, wkV, wkL, AV.ids, idsL, keysOf, ren]) (by simp [stoS, go_sem, wkV, wkL, wkO, AV.ids, Ob.ids, idsL, keysOf, ren, AV.one]) (by simp [keysOf, ren]) (by simp) (by simp [keysOf]) (by simp [keysOf])) ?_
  intro i hi
  simp only [go_sem, ↓reduceIte, Nat.reduceEqDiff, Nat.reduceAdd, Nat.reduceLeDiff, reduceCtorEq, Nat.reduceLT, Int.reduceLT, Int.reduceLE, Int.reduceEq, Int.reduceToNat, Nat.reduceMul]
  refine W_split rfl (fun h => ?_) (fun h => ?_)
  · simp at h
    obtain ⟨x, hget⟩ := get_of_lt h
    have ei : IntKind.i64.wrap ((i : Int) + 1) = ((i + 1 : Nat) : Int) := by rw [wrap_i64_of (by omega) (by omega)]; omega
    have b := f_ref08_Same x (hx x (List.mem_of_getElem? hget))
    simp only [recT, List.map] at b
    simp only [go_sem, hget, recT, ↓reduceIte, Nat.reduceEqDiff, Nat.reduceAdd, Nat.reduceLeDiff, reduceCtorEq, Nat.reduceLT, Int.reduceLT, Int.reduceLE, Int.reduceEq, Int.reduceToNat, Nat.reduceMul]
    refine Cl_plain b ?_
    simp only [go_sem, ↓reduceIte, Nat.reduceEqDiff, Nat.reduceAdd, Nat.reduceLeDiff, reduceCtorEq, Nat.reduceLT, Int.reduceLT, Int.reduceLE, Int.reduceEq, Int.reduceToNat, Nat.reduceMul]
    ((try (with_reducible refine R_fin (by repeat' (first | exact okp0 | refine okp rfl rfl rfl ?_)) ?_)); (try simp only [go_sem, ei, ↓reduceIte, Nat.reduceEqDiff, Nat.reduceAdd, Nat.reduceLeDiff, reduceCtorEq, Nat.reduceLT, Int.reduceLT, Int.reduceLE, Int.reduceEq, Int.reduceToNat, Nat.reduceMul]))
    exact rd_of (i + 1) (by first | omega | (simp only; omega)) (by first | omega | (simp only; omega)) (subL [] [] (by simp [envS, go_sem, wkV, wkL, AV.ids, idsL, keysOf, ren]) (by simp [stoS, go_sem, wkV, wkL, wkO, AV.ids, Ob.ids, idsL, keysOf, ren, AV.one]) (by simp [keysOf, ren]) (by simp) (by simp [keysOf]) (by simp [keysOf]))
  · simp only [go_sem, ↓reduceIte, Nat.reduceEqDiff, Nat.reduceAdd, Nat.reduceLeDiff, reduceCtorEq, Nat.reduceLT, Int.reduceLT, Int.reduceLE, Int.reduceEq, Int.reduceToNat, Nat.reduceMul]
    refine wends (by first | exact Or.inl rfl | exact Or.inr rfl) ?_ (by first | rfl | simp [AV.ids, idsL])
    simp only [go_sem, r_ref08_SameList, ↓reduceIte, Nat.reduceEqDiff, Nat.reduceAdd, Nat.reduceLeDiff, reduceCtorEq, Nat.reduceLT, Int.reduceLT, Int.reduceLE, Int.reduceEq, Int.reduceToNat, Nat.reduceMul]

def sumR : List Ring → Nat
  | [] => 0
  | r :: l => r.2.length + sumR l

theorem sumR_app : ∀ (a b : List Ring), sumR (a ++ b) = sumR a + sumR b
  | [], b => by simp [sumR]
  | r :: a, b => by simp only [List.cons_append, sumR, sumR_app a b]; omega

theorem sumR_succ {l : List Ring} {i : Nat} {r : Ring} (h : l[i]? = some r) : sumR (l.take (i + 1)) = sumR (l.take i) + r.2.length := by
  rw [List.take_add_one, h, sumR_app]; simp [sumR]

theorem slots_sum : ∀ (l : List Ring) (i : Nat), (slotsFrom i l).length ≤ sumR l
  | [], _ => by simp [slotsFrom, sumR]
  | r :: l, i => by
    have := slots_sum l (i + 1)
    have := live_len r.1 r.2
    simp only [slotsFrom, List.length_append, List.length_map, sumR]
    omega

theorem sumR_le : ∀ (l : List Ring), (∀ r ∈ l, r.2.length ≤ 400) → sumR l ≤ 400 * l.length
  | [], _ => by simp [sumR]
  | r :: l, h => by
    have := sumR_le l (fun x hx => h x (by simp [hx]))
    have := h r (by simp)
    simp only [sumR, List.length_cons]; omega

theorem f_law14_LadderKept (m f : Int) (l : List Ring) (hn : l.length ≤ reachBytes) (hr : ∀ r ∈ l, r.2.length ≤ reachBytes) (hs : ∀ r ∈ l, InS r.2) : Meets Tryz.prog E0 n_law14_LadderKept [ladV m f l] [] (Bo true) [] := by
  refine m_law14_LadderKept (by simp) (shut0 rfl) (shut0 rfl) (by simp) (by simp [keysOf]) ?_
  have hm : maxLen = 9223372036854775807 := rfl
  have hrb : reachBytes = 140737488351232 := rfl
  have b0 := f_law14_great m f l hn hr
  cases hg : grF l (l.length : Int)
  case true =>
    rw [hg] at b0
    clear hg hn hr hs
    repeat' (first | (with_reducible refine Cl_plain (f_law14_alive) ?_) | (with_reducible refine Cl_plain (b0) ?_) | (simp only [go_sem, s_law14_LadderKept, ↓reduceIte, Nat.reduceEqDiff, Nat.reduceAdd, Nat.reduceLeDiff, reduceCtorEq, Nat.reduceLT, Int.reduceLT, Int.reduceLE, Int.reduceEq, Int.reduceToNat, Nat.reduceMul, *]) | (simp (disch := omega) only [s_law14_LadderKept, wrap_i64_of, i64_quo, i64_rem, sdiv, smod]) | ((with_reducible refine W_split (by with_unfolding_all exact rfl) (fun hsp => ?_) (fun hsp => ?_)) <;> (try simp only [Bool.not_true, Bool.not_false, decide_eq_true_eq, decide_eq_false_iff_not, Bool.not_eq_true', Bool.not_eq_false', not_false_eq_true] at hsp)) | ((with_reducible refine R_split (by with_unfolding_all exact rfl) (fun hsp => ?_) (fun hsp => ?_)) <;> (try simp only [Bool.not_true, Bool.not_false, decide_eq_true_eq, decide_eq_false_iff_not, Bool.not_eq_true', Bool.not_eq_false', not_false_eq_true] at hsp)) | (with_reducible refine R_fin (by repeat' (first | exact okp0 | refine okp rfl rfl rfl ?_)) ?_))
    refine wends (by first | exact Or.inl rfl | exact Or.inr rfl) ?_ (by first | rfl | simp [AV.ids, idsL])
    simp only [go_sem, r_law14_LadderKept, ↓reduceIte, Nat.reduceEqDiff, Nat.reduceAdd, Nat.reduceLeDiff, reduceCtorEq, Nat.reduceLT, Int.reduceLT, Int.reduceLE, Int.reduceEq, Int.reduceToNat, Nat.reduceMul]
  obtain ⟨g1, g2⟩ := gr_small hg
  have g2 := g2 (by omega)
  rw [hg] at b0
  have b1 := f_ladder_Slots m f l (by omega)
  have b2 := f_ref14_Slots m f l (by omega)
  have b4 := f_ref14_Right m f l (by omega)
  cases hl : ladB m f l
  case false =>
    have e : slotsM m f l = [] := by simp [slotsM, hl]
    rw [hl] at b4
    rw [e] at b1 b2
    have b3 := f_ref08_SameList [] (by simp) (by simp)
    have hz0 : decide (((0 : Nat) : Int) = 0) = true := rfl
    clear hg hn hr hs g1 g2 e
    repeat' (first | (with_reducible refine Cl_plain (f_law14_alive) ?_) | (with_reducible refine Cl_plain (b0) ?_) | (with_reducible refine Cl_plain (b1) ?_) | (with_reducible refine Cl_plain (b2) ?_) | (with_reducible refine Cl_plain (b3) ?_) | (with_reducible refine Cl_plain (b4) ?_) | (simp only [go_sem, s_law14_LadderKept, hz0, ↓reduceIte, Nat.reduceEqDiff, Nat.reduceAdd, Nat.reduceLeDiff, reduceCtorEq, Nat.reduceLT, Int.reduceLT, Int.reduceLE, Int.reduceEq, Int.reduceToNat, Nat.reduceMul, *]) | (simp (disch := omega) only [s_law14_LadderKept, hz0, wrap_i64_of, i64_quo, i64_rem, sdiv, smod]) | ((with_reducible refine W_split (by with_unfolding_all exact rfl) (fun hsp => ?_) (fun hsp => ?_)) <;> (try simp only [Bool.not_true, Bool.not_false, decide_eq_true_eq, decide_eq_false_iff_not, Bool.not_eq_true', Bool.not_eq_false', not_false_eq_true] at hsp)) | ((with_reducible refine R_split (by with_unfolding_all exact rfl) (fun hsp => ?_) (fun hsp => ?_)) <;> (try simp only [Bool.not_true, Bool.not_false, decide_eq_true_eq, decide_eq_false_iff_not, Bool.not_eq_true', Bool.not_eq_false', not_false_eq_true] at hsp)) | (with_reducible refine R_fin (by repeat' (first | exact okp0 | refine okp rfl rfl rfl ?_)) ?_))
    refine wends (by first | exact Or.inl rfl | exact Or.inr rfl) ?_ (by first | rfl | simp [AV.ids, idsL])
    simp only [go_sem, r_law14_LadderKept, ↓reduceIte, Nat.reduceEqDiff, Nat.reduceAdd, Nat.reduceLeDiff, reduceCtorEq, Nat.reduceLT, Int.reduceLT, Int.reduceLE, Int.reduceEq, Int.reduceToNat, Nat.reduceMul]
  rw [hl] at b4
  obtain ⟨p1, p2, p3, p4, p5⟩ := lad_parts hl
  have h400 : ∀ r ∈ l, r.2.length ≤ 400 := fun r hr => by have := ringB_sized (List.all_eq_true.1 p2 r hr); omega
  have hsl : (slotsM m f l).length ≤ sumR l := by unfold slotsM; rw [if_pos hl]; exact slots_sum l 0
  have hsum := sumR_le l h400
  have hpl : ∀ x ∈ slotsM m f l, x.2.2.2.2.1.length ≤ maxLen := by
    intro x hx
    unfold slotsM at hx
    rw [if_pos hl] at hx
    rw [slots_plain l 0 x hx]; simp
  have b3 := f_ref08_SameList (slotsM m f l) (by omega) hpl
  have b5 := f_ref14_Rungs m f l (by omega)
  rw [List.take_of_length_le (show l.length ≤ 10 by omega)] at b5
  have b6 := f_ladder_Build (l.map rungM) m f (slotsM m f l) (by simp; omega) (by omega) (slots_inV hs)
  rw [bld_kept hl] at b6
  have b7 := f_ref14_Same m f m f l l (by omega) (fun r hr => by have := h400 r hr; omega)
  rw [decide_eq_true (show _ ∧ _ ∧ _ from ⟨rfl, rfl, rfl⟩)] at b7
  generalize hS : slotsM m f l = S at *
  have hz0 : decide ((0 : Int) = 0) = true := rfl
  simp only [go_sem, s_law14_LadderKept, ↓reduceIte, Nat.reduceEqDiff, Nat.reduceAdd, Nat.reduceLeDiff, reduceCtorEq, Nat.reduceLT, Int.reduceLT, Int.reduceLE, Int.reduceEq, Int.reduceToNat, Nat.reduceMul]
  refine Cl_plain f_law14_alive ?_
  simp only [go_sem, ↓reduceIte, Nat.reduceEqDiff, Nat.reduceAdd, Nat.reduceLeDiff, reduceCtorEq, Nat.reduceLT, Int.reduceLT, Int.reduceLE, Int.reduceEq, Int.reduceToNat, Nat.reduceMul]
  refine Cl_plain b0 ?_
  simp only [go_sem, ↓reduceIte, Nat.reduceEqDiff, Nat.reduceAdd, Nat.reduceLeDiff, reduceCtorEq, Nat.reduceLT, Int.reduceLT, Int.reduceLE, Int.reduceEq, Int.reduceToNat, Nat.reduceMul]
  refine Cl_plain b1 ?_
  simp only [go_sem, ↓reduceIte, Nat.reduceEqDiff, Nat.reduceAdd, Nat.reduceLeDiff, reduceCtorEq, Nat.reduceLT, Int.reduceLT, Int.reduceLE, Int.reduceEq, Int.reduceToNat, Nat.reduceMul]
  refine Cl_plain b2 ?_
  simp only [go_sem, ↓reduceIte, Nat.reduceEqDiff, Nat.reduceAdd, Nat.reduceLeDiff, reduceCtorEq, Nat.reduceLT, Int.reduceLT, Int.reduceLE, Int.reduceEq, Int.reduceToNat, Nat.reduceMul]
  refine Cl_plain b3 ?_
  simp only [go_sem, ↓reduceIte, Nat.reduceEqDiff, Nat.reduceAdd, Nat.reduceLeDiff, reduceCtorEq, Nat.reduceLT, Int.reduceLT, Int.reduceLE, Int.reduceEq, Int.reduceToNat, Nat.reduceMul]
  refine Cl_plain b4 ?_
  simp only [go_sem, ↓reduceIte, Nat.reduceEqDiff, Nat.reduceAdd, Nat.reduceLeDiff, reduceCtorEq, Nat.reduceLT, Int.reduceLT, Int.reduceLE, Int.reduceEq, Int.reduceToNat, Nat.reduceMul]
  refine Cl_plain b5 ?_
  simp only [go_sem, ↓reduceIte, Nat.reduceEqDiff, Nat.reduceAdd, Nat.reduceLeDiff, reduceCtorEq, Nat.reduceLT, Int.reduceLT, Int.reduceLE, Int.reduceEq, Int.reduceToNat, Nat.reduceMul]
  refine W_loop (fun i : Nat => l.length - i) (fun i => i ≤ l.length)
    (fun i => [(1, .ptr 100 0), (3, recL S), (4, slL (l.map rungM)), (5, I (sumR (l.take i))), (6, I i)])
    (fun i => [(100, .box [I m, I f, rgL l])])
    0 (Nat.zero_le _) ?_ ?_
  · rw [show sumR (l.take 0) = 0 from rfl]
    exact (subL [] [] (by simp [envS, go_sem, wkV, wkL, AV.ids, idsL, keysOf, ren]) (by simp [stoS, go_sem, wkV, wkL, wkO, AV.ids, Ob.ids, idsL, keysOf, ren, AV.one]) (by simp [keysOf, ren]) (by simp) (by simp [keysOf]) (by simp [keysOf]))
  intro i hi
  simp only [go_sem, ↓reduceIte, Nat.reduceEqDiff, Nat.reduceAdd, Nat.reduceLeDiff, reduceCtorEq, Nat.reduceLT, Int.reduceLT, Int.reduceLE, Int.reduceEq, Int.reduceToNat, Nat.reduceMul]
  refine W_split rfl (fun h => ?_) (fun h => ?_)
  · simp at h
    obtain ⟨r, hget⟩ := get_of_lt h
    have ei : IntKind.i64.wrap ((i : Int) + 1) = ((i + 1 : Nat) : Int) := by rw [wrap_i64_of (by omega) (by omega)]; omega
    have hsr := sumR_succ hget
    have hle := sumR_le (l.take i) (fun x hx => h400 x (List.mem_of_mem_take hx))
    have hti : (l.take i).length ≤ 4 := by rw [List.length_take]; omega
    have hr4 := h400 r (List.mem_of_getElem? hget)
    have es : IntKind.i64.wrap ((sumR (l.take i) : Int) + (r.2.length : Int)) = ((sumR (l.take (i + 1)) : Nat) : Int) := by rw [wrap_i64_of (by omega) (by omega), hsr]; omega
    simp only [go_sem, hget, slT, rungM, es, ei, ↓reduceIte, Nat.reduceEqDiff, Nat.reduceAdd, Nat.reduceLeDiff, reduceCtorEq, Nat.reduceLT, Int.reduceLT, Int.reduceLE, Int.reduceEq, Int.reduceToNat, Nat.reduceMul]
    exact rd_of (i + 1) (by first | omega | (simp only; omega)) (by first | omega | (simp only; omega)) (subL [] [] (by simp [envS, go_sem, wkV, wkL, AV.ids, idsL, keysOf, ren]) (by simp [stoS, go_sem, wkV, wkL, wkO, AV.ids, Ob.ids, idsL, keysOf, ren, AV.one]) (by simp [keysOf, ren]) (by simp) (by simp [keysOf]) (by simp [keysOf]))
  · have e : i = l.length := by simp at h; omega
    subst e
    rw [List.take_length]
    have dn : decide (S.length ≤ sumR l) = true := decide_eq_true (by omega)
    simp only [go_sem, ↓reduceIte, Nat.reduceEqDiff, Nat.reduceAdd, Nat.reduceLeDiff, reduceCtorEq, Nat.reduceLT, Int.reduceLT, Int.reduceLE, Int.reduceEq, Int.reduceToNat, Nat.reduceMul]
    refine Cl_plain b6 ?_
    simp only [go_sem, hz0, ↓reduceIte, Nat.reduceEqDiff, Nat.reduceAdd, Nat.reduceLeDiff, reduceCtorEq, Nat.reduceLT, Int.reduceLT, Int.reduceLE, Int.reduceEq, Int.reduceToNat, Nat.reduceMul]
    refine Cl_plain b7 ?_
    simp only [go_sem, dn, ↓reduceIte, Nat.reduceEqDiff, Nat.reduceAdd, Nat.reduceLeDiff, reduceCtorEq, Nat.reduceLT, Int.reduceLT, Int.reduceLE, Int.reduceEq, Int.reduceToNat, Nat.reduceMul]
    refine wends (by first | exact Or.inl rfl | exact Or.inr rfl) ?_ (by first | rfl | simp [AV.ids, idsL])
    simp only [go_sem, r_law14_LadderKept, ↓reduceIte, Nat.reduceEqDiff, Nat.reduceAdd, Nat.reduceLeDiff, reduceCtorEq, Nat.reduceLT, Int.reduceLT, Int.reduceLE, Int.reduceEq, Int.reduceToNat, Nat.reduceMul]

end Go.Proofs.YtmjlldlaigoflaaGreat
