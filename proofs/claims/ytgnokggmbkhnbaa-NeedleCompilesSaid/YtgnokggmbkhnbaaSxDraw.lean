/- A region whose order is drawn. No statement of a seat is proved here. -/
import Derived.Test.YtgnokggmbkhnbaaSxOrder
set_option linter.unusedSimpArgs false
set_option linter.unusedVariables false
namespace Go.Sx

def befF (acc : List Nat) (l : List Oper) : List Nat := l.foldl (fun acc o => acc ++ [befStep acc o]) acc

theorem befF_len : ∀ (l : List Oper) (acc : List Nat), (befF acc l).length = acc.length + l.length
  | [], acc => by simp [befF]
  | o :: l, acc => by
    have := befF_len l (acc ++ [befStep acc o])
    simp only [befF, List.foldl_cons] at this ⊢
    rw [this]; simp; omega

theorem befF_pre : ∀ (l : List Oper) (acc : List Nat) (i : Nat), i < acc.length → (befF acc l)[i]? = acc[i]?
  | [], acc, i, _ => by simp [befF]
  | o :: l, acc, i, h => by
    have := befF_pre l (acc ++ [befStep acc o]) i (by simp; omega)
    simp only [befF, List.foldl_cons] at this ⊢
    rw [this, List.getElem?_append_left h]

theorem befF_split (l : List Oper) (acc : List Nat) (j : Nat) : befF acc l = befF (befF acc (l.take j)) (l.drop j) := by
  unfold befF
  rw [← List.foldl_append, List.take_append_drop]

theorem befF_get (l : List Oper) (acc : List Nat) (j : Nat) (o : Oper) (h : l[j]? = some o) : (befF acc l)[acc.length + j]? = some (befStep (befF acc (l.take j)) o) := by
  have hj := (List.getElem?_eq_some_iff.1 h).1
  rw [befF_split l acc j, List.drop_eq_getElem_cons hj]
  have hl : (befF acc (l.take j)).length = acc.length + j := by rw [befF_len]; simp; omega
  have ho : l[j] = o := (List.getElem?_eq_some_iff.1 h).2
  simp only [befF, List.foldl_cons]
  have := befF_pre (l.drop (j + 1)) (befF acc (l.take j) ++ [befStep (befF acc (l.take j)) l[j]]) (acc.length + j) (by simp [hl])
  simp only [befF] at this hl ⊢
  rw [this, List.getElem?_append_right (by omega)]
  simp [hl, ho]

theorem bits_fold (acc : List Nat) (x : Nat) : ∀ (es : List Edge) (s : Nat), (es.foldl (fun s e => if Region.binds .any e then s ||| 2 ^ e.on ||| acc.getD e.on 0 else s) s).testBit x = true →
    s.testBit x = true ∨ ∃ e ∈ es, Region.binds .any e = true ∧ (x = e.on ∨ (acc.getD e.on 0).testBit x = true)
  | [], s, h => Or.inl h
  | e :: es, s, h => by
    simp only [List.foldl_cons] at h
    rcases bits_fold acc x es _ h with h | ⟨e', he, h⟩
    · split at h
      · rename_i hb
        simp only [Nat.testBit_or, Bool.or_eq_true, Nat.testBit_two_pow, decide_eq_true_eq] at h
        rcases h with (h | h) | h
        · exact Or.inl h
        · exact Or.inr ⟨e, by simp, hb, Or.inl h.symm⟩
        · exact Or.inr ⟨e, by simp, hb, Or.inr h⟩
      · exact Or.inl h
    · exact Or.inr ⟨e', by simp [he], h⟩

theorem bef_spec {l : List Oper} {j x : Nat} {o : Oper} (h : l[j]? = some o) (hb : ((befL l).getD j 0).testBit x = true) :
    ∃ e ∈ o.after.toList, Region.binds .any e = true ∧ (x = e.on ∨ (e.on < j ∧ ((befL l).getD e.on 0).testBit x = true)) := by
  have hg := befF_get l [] j o h
  simp only [List.length_nil, Nat.zero_add] at hg
  have e0 : befL l = befF [] l := rfl
  rw [e0, List.getD_eq_getElem?_getD, hg] at hb
  simp only [Option.getD_some, befStep] at hb
  rcases bits_fold _ x _ _ hb with hb | ⟨e, he, hbi, hx⟩
  · simp at hb
  · refine ⟨e, he, hbi, hx.imp (fun h => h) fun hx => ?_⟩
    have hjl := (List.getElem?_eq_some_iff.1 h).1
    have hlen : (befF [] (l.take j)).length = j := by rw [befF_len]; simp; omega
    by_cases hlt : e.on < j
    · refine ⟨hlt, ?_⟩
      rw [List.getD_eq_getElem?_getD] at hx
      rw [e0, List.getD_eq_getElem?_getD, befF_split l [] j, befF_pre _ _ _ (by omega)]
      exact hx
    · rw [List.getD_eq_getElem?_getD, List.getElem?_eq_none (by omega)] at hx
      simp at hx

/-- What is closed under the edges holds all that stands ahead. -/
theorem closed_bef {ops : Array Oper} {listed : Array Bool} (hcl : ∀ i o, ops[i]? = some o → listed.getD i true = true → ∀ e ∈ o.after, Region.binds .any e = true → listed.getD e.on false = true) :
    ∀ (j : Nat) (o : Oper), ops[j]? = some o → (∀ e ∈ o.after, Region.binds .any e = true → listed.getD e.on false = true) → ∀ x, ((befL ops.toList).getD j 0).testBit x = true → listed.getD x false = true := by
  intro j
  induction j using Nat.strongRecOn with
  | _ j ih =>
    intro o ho hd x hx
    obtain ⟨e, he, hb, hx⟩ := bef_spec (l := ops.toList) (by simpa using ho) hx
    have he' : e ∈ o.after := Array.mem_toList_iff.1 he
    have hl := hd e he' hb
    rcases hx with rfl | ⟨hlt, hx⟩
    · exact hl
    · cases hoe : ops[e.on]? with
      | none =>
        have : (befL ops.toList).getD e.on 0 = 0 := by
          have hn : ops.size ≤ e.on := by
            rcases Nat.lt_or_ge e.on ops.size with h' | h'
            · simp [h'] at hoe
            · exact h'
          have hl : (befL ops.toList).length = ops.size := by
            have := befF_len ops.toList []
            simpa [befL, befF] using this
          rw [List.getD_eq_getElem?_getD, List.getElem?_eq_none (by omega)]; rfl
        rw [this] at hx; simp at hx
      | some oe =>
        refine ih e.on hlt oe hoe (hcl e.on oe hoe ?_) x hx
        rw [Array.getD_eq_getD_getElem?] at hl ⊢
        cases hq : listed[e.on]? with
        | none => rfl
        | some b => rw [hq] at hl; simpa using hl

section
variable {P : Program} {E : Env} {G : Nat → Option (List T)} {F : Frm}

theorem region_draw (hG : GOK E G) {st' : St} {n : Nat} {ops : Array Oper} {Q : Exit → Act → World → Prop} {base : Nat} (hQ : ∀ a' w' A' φ', RS E F st'.sto w' A' φ' → RE st' n a' w' A' φ' → Q .normal a' w')
    (hedge : ∀ i o, ops[i]? = some o → ∀ e ∈ o.after, Region.binds .any e = true → e.on < i) :
    ∀ (fuel : Nat) (L : List (Nat × SO × Rc)) (listed : Array Bool) (st : St) (a : Act) (w : World) (A : Nat → Prop) (φ : Nat → Nat), L.length = fuel → listed.size = ops.size →
      (∀ p ∈ L, ∃ i x, p.1 = base + i ∧ ops[i]? = some x ∧ slimO1 P G n ops x = some p.2.1) →
      (∀ i, listed.getD i true = false ↔ ∃ p ∈ L, p.1 = base + i) →
      L.Pairwise (fun p q => p.1 < q.1 ∧ (((befL ops.toList).getD (q.1 - base) 0).testBit (p.1 - base) = true ∨ Apart p.2.1 p.2.2 q.2.1 q.2.2)) →
      (∀ i o, ops[i]? = some o → listed.getD i true = true → ∀ e ∈ o.after, Region.binds .any e = true → listed.getD e.on false = true) →
      RS E F st.sto w A φ → RE st n a w A φ → Runs P E L st st' → wpAny P .any ops Q fuel listed a w
  | 0, L, listed, st, a, w, A, φ, hlen, hsz, hL, hmem, hpw, hcl, h, r, hr => by
    have hL0 : L = [] := List.eq_nil_of_length_eq_zero hlen
    subst hL0
    simp only [Runs] at hr; subst hr
    refine ⟨?_, hQ a w A φ h r⟩
    cases hrd : Region.ready .any ops listed with
    | nil => rfl
    | cons i _ =>
      have hi : i ∈ Region.ready .any ops listed := by rw [hrd]; simp
      obtain ⟨p, hp, _⟩ := (hmem i).1 (mem_ready.1 hi).1
      simp at hp
  | fuel + 1, L, listed, st, a, w, A, φ, hlen, hsz, hL, hmem, hpw, hcl, h, r, hr => by
    refine ⟨fun hnil => ?_, fun i hi => ?_⟩
    · -- the first that is left is ready
      cases L with
      | nil => simp at hlen
      | cons p L =>
        obtain ⟨i, x, hpi, hx, hs⟩ := hL p (by simp)
        have hun := (hmem i).2 ⟨p, by simp, hpi⟩
        have : i ∈ Region.ready .any ops listed := by
          refine mem_ready.2 ⟨hun, x, hx, fun e he hb => ?_⟩
          have hlt := hedge i x hx e he hb
          have hxi := (Array.getElem?_eq_some_iff.1 hx).1
          cases hq : listed.getD e.on true with
          | true =>
            rw [Array.getD_eq_getD_getElem?] at hq ⊢
            rw [Array.getElem?_eq_getElem (by omega)] at hq ⊢
            simpa using hq
          | false =>
            obtain ⟨q, hq1, hq2⟩ := (hmem e.on).1 hq
            rcases List.mem_cons.1 hq1 with rfl | hq1
            · omega
            · have := (List.pairwise_cons.1 hpw).1 q hq1
              omega
        rw [hnil] at this; simp at this
    · obtain ⟨hun, x, hx, hedges⟩ := mem_ready.1 hi
      obtain ⟨p, hp, hpi⟩ := (hmem i).1 hun
      obtain ⟨j, x', hpj, hx', hs⟩ := hL p hp
      have hij : j = i := by omega
      subst hij
      rw [hx] at hx'; injection hx' with hx'; subst hx'
      obtain ⟨La, Lb, hsplit⟩ := List.append_of_mem hp
      subst hsplit
      have hap : ∀ q ∈ La, Apart q.2.1 q.2.2 p.2.1 p.2.2 := fun q hq => by
        have hpq := (List.pairwise_append.1 hpw).2.2 q hq p (by simp)
        rcases hpq.2 with hb | hb
        · exfalso
          have := closed_bef hcl j x hx hedges (q.1 - base) (by rw [show p.1 - base = j from by omega] at hb; exact hb)
          obtain ⟨jq, xq, hq1, hxq, _⟩ := hL q (by simp [hq])
          have hunq := (hmem jq).2 ⟨q, by simp [hq], hq1⟩
          rw [show q.1 - base = jq from by omega] at this
          rw [Array.getD_eq_getD_getElem?] at this hunq
          cases hlq : listed[jq]? with
          | none => rw [hlq] at hunq; simp at hunq
          | some b => rw [hlq] at this hunq; simp at this hunq; rw [this] at hunq; simp at hunq
        · exact hb
      obtain ⟨pi, po, pr⟩ := p
      have hr' := front hap hr
      simp only [Runs] at hr'
      obtain ⟨f1, f2, f3, f4, f5⟩ := slimO1_facts hs
      refine can_sim hG h r hx f1 f2 f3 f4 f5 hr'.1 fun a' w' A' φ' h' r' => ?_
      have hsize : j < listed.size := by rw [hsz]; exact (Array.getElem?_eq_some_iff.1 hx).1
      have hlst : ∀ k (d : Bool), (listed.setIfInBounds j true).getD k d = if k = j then true else listed.getD k d := fun k d => by
        by_cases hk : k = j
        · subst hk; simp [hsize]
        · rw [if_neg hk]; exact getD_set_ne d (Ne.symm hk)
      refine region_draw hG hQ hedge fuel (La ++ Lb) _ _ a' w' A' φ' (by simp at hlen ⊢; omega) (by simp [hsz]) (fun q hq => hL q ?_) (fun k => ?_) ?_ (fun k o ho hk e he hb => ?_) h' r' hr'.2
      · rcases List.mem_append.1 hq with hq | hq <;> simp [hq]
      · rw [hlst]
        have hnot : ∀ q ∈ La ++ Lb, q.1 ≠ base + j := fun q hq e => by
          rcases List.mem_append.1 hq with hq | hq
          · have := (List.pairwise_append.1 hpw).2.2 q hq _ (by simp : (pi, po, pr) ∈ (pi, po, pr) :: Lb)
            simp only at this hpi; omega
          · have := (List.pairwise_cons.1 (List.pairwise_append.1 hpw).2.1).1 q hq
            simp only at this hpi; omega
        by_cases hk : k = j
        · subst hk
          simp only [if_true, Bool.true_eq_false, false_iff]
          rintro ⟨q, hq, hqe⟩
          exact hnot q hq hqe
        · rw [if_neg hk, hmem k]
          constructor
          · rintro ⟨q, hq, hqe⟩
            rcases List.mem_append.1 hq with hq | hq
            · exact ⟨q, by simp [hq], hqe⟩
            · rcases List.mem_cons.1 hq with rfl | hq
              · simp only at hpi hqe; omega
              · exact ⟨q, by simp [hq], hqe⟩
          · rintro ⟨q, hq, hqe⟩
            rcases List.mem_append.1 hq with hq | hq
            · exact ⟨q, by simp [hq], hqe⟩
            · exact ⟨q, by simp [hq], hqe⟩
      · rw [List.pairwise_append] at hpw ⊢
        exact ⟨hpw.1, (List.pairwise_cons.1 hpw.2.1).2, fun q hq q' hq' => hpw.2.2 q hq q' (by simp [hq'])⟩
      · rw [hlst]
        by_cases hk2 : k = j
        · subst hk2
          rw [hx] at ho; injection ho with ho; subst ho
          split
          · rfl
          · exact hedges e he hb
        · rw [hlst, if_neg hk2] at hk
          split
          · rfl
          · exact hcl k o ho hk e he hb

/-- A region, whether its order is drawn or not. -/
theorem region_ok (hm : P.follows .mixedOrders = true) (hG : GOK E G) {st st' : St} {n : Nat} {ops : Array Oper} {draw : Bool} {sos : List SO} {prs : List (Nat × Nat)} (hsl : slimReg P G n ops draw = some (sos, prs)) {Q : Exit → Act → World → Prop} {base id : Nat}
    (hQ : ∀ a' w' A' φ', RS E F st'.sto w' A' φ' → RE st' n a' w' A' φ' → Q .normal a' w') {rs : List Rc} (hrs : rs.length = sos.length) (hruns : Runs P E (steps base sos rs) st st')
    (hprs : ∀ p ∈ prs, ∃ a b, rs[p.1]? = some a ∧ rs[p.2]? = some b ∧ apartR a b = true)
    {a : Act} {w : World} {A : Nat → Prop} {φ : Nat → Nat} (h : RS E F st.sto w A φ) (r : RE st n a w A φ) : (Code.region id ops draw).wp P Q a w := by
  unfold slimReg at hsl
  split at hsl
  · rename_i l hall
    have hget := slimAll_get hall
    have hback : ∀ (i : Nat) (o : SO), l[i]? = some o → ∃ x, ops[i]? = some x ∧ slimO1 P G n ops x = some o := fun i o ho => by
      have hi : i < ops.toList.length := by rw [← hget.1]; exact (List.getElem?_eq_some_iff.1 ho).1
      obtain ⟨so, hso, hs⟩ := hget.2 i _ (List.getElem?_eq_getElem hi)
      rw [ho] at hso; injection hso with hso; subst hso
      exact ⟨ops.toList[i], by simp at hi ⊢, hs⟩
    have hsize : l.length = ops.size := by rw [hget.1]; simp
    cases draw with
    | false =>
      simp only [Bool.false_eq_true, if_false, Option.some.injEq, Prod.mk.injEq] at hsl
      obtain ⟨rfl, rfl⟩ := hsl
      refine wp_region ?_
      have := region_text hG (base := base) hQ 0 l rs st a w A φ (fun i o ho => by rw [Nat.zero_add]; exact hback i o ho) hrs h r (by simpa using hruns)
      rw [hsize] at this
      rwa [List.range_eq_range']
    | true =>
      simp only [if_true] at hsl
      split at hsl
      · rename_i hok
        simp only [Option.some.injEq, Prod.mk.injEq] at hsl
        obtain ⟨rfl, rfl⟩ := hsl
        simp only [Bool.and_eq_true] at hok
        refine wp_region_any hm ?_
        have hlen := steps_len (base := base) hrs
        have hsget : ∀ (i : Nat) (p : Nat × SO × Rc), (steps base l rs)[i]? = some p → p.1 = base + i ∧ l[i]? = some p.2.1 ∧ rs[i]? = some p.2.2 := fun i p hp => by
          have hi : i < l.length := by rw [← hlen]; exact (List.getElem?_eq_some_iff.1 hp).1
          have := steps_get (base := base) (List.getElem?_eq_getElem hi) (List.getElem?_eq_getElem (l := rs) (i := i) (by omega))
          rw [hp] at this; injection this with this
          subst this
          exact ⟨rfl, List.getElem?_eq_getElem hi, List.getElem?_eq_getElem (by omega)⟩
        have hcanAll : ∀ (L : List (Nat × SO × Rc)) (s s' : St), Runs P E L s s' → ∀ p ∈ L, ∃ s1, Can P E p.1 p.2.1 s1 p.2.2 := by
          intro L
          induction L with
          | nil => intro s s' _ p hp; simp at hp
          | cons q L ih =>
            intro s s' hr p hp
            obtain ⟨qi, qo, qr⟩ := q
            simp only [Runs] at hr
            rcases List.mem_cons.1 hp with rfl | hp
            · exact ⟨s, hr.1⟩
            · exact ih _ _ hr.2 p hp
        refine region_draw hG (base := base) hQ ?_ ops.size (steps base l rs) (Array.replicate ops.size false) st a _ A φ (by rw [hlen, hsize]) (by simp) ?_ ?_ ?_ ?_ h.drew ⟨r.size, r.defers, fun k => CA.goes (goes_drew A w) _ _ (fun _ _ => rfl) (r.val k), r.nod⟩ hruns
        · intro i o ho e he hb
          have h1 := hok.1
          unfold edgesOk at h1
          rw [List.all_eq_true] at h1
          have := h1 (o, i) (by rw [List.mem_zipIdx_iff_getElem?]; simpa using ho)
          rw [List.all_eq_true] at this
          have := this e (Array.mem_toList_iff.2 he)
          simpa [hb] using this
        · intro p hp
          obtain ⟨i, hi, hpe⟩ := List.getElem_of_mem hp
          obtain ⟨g1, g2, g3⟩ := hsget i p (by rw [← hpe]; exact List.getElem?_eq_getElem hi)
          obtain ⟨x, hx, hs⟩ := hback i _ g2
          exact ⟨i, x, g1, hx, hs⟩
        · intro i
          constructor
          · intro hi
            have hlt : i < ops.size := by
              rcases Nat.lt_or_ge i ops.size with h' | h'
              · exact h'
              · rw [Array.getD_eq_getD_getElem?, Array.getElem?_eq_none (by simpa using h')] at hi; simp at hi
            refine ⟨(steps base l rs)[i]'(by rw [hlen]; omega), List.getElem_mem _, ?_⟩
            exact (hsget i _ (List.getElem?_eq_getElem _)).1
          · rintro ⟨p, hp, hpe⟩
            obtain ⟨j, hj, hpj⟩ := List.getElem_of_mem hp
            obtain ⟨g1, g2, g3⟩ := hsget j p (by rw [← hpj]; exact List.getElem?_eq_getElem hj)
            have : j = i := by omega
            subst this
            rw [Array.getD_eq_getD_getElem?]
            rw [hlen] at hj
            simp [show j < ops.size from by omega]
        · rw [List.pairwise_iff_getElem]
          intro i j hi hj hij
          obtain ⟨a1, a2, a3⟩ := hsget i _ (List.getElem?_eq_getElem hi)
          obtain ⟨b1, b2, b3⟩ := hsget j _ (List.getElem?_eq_getElem hj)
          refine ⟨by omega, ?_⟩
          rw [a1, b1, Nat.add_sub_cancel_left, Nat.add_sub_cancel_left]
          by_cases hb : ((befL ops.toList).getD j 0).testBit i = true
          · exact Or.inl hb
          · right
            have h2 := hok.2
            unfold slotsOk at h2
            rw [List.all_eq_true] at h2
            have h3 := h2 (_, j) (List.mem_zipIdx_iff_getElem?.2 b2)
            rw [List.all_eq_true] at h3
            have hti : (l.take j)[i]? = some ((steps base l rs)[i]).2.1 := by rw [List.getElem?_take_of_lt hij]; exact a2
            have h4 := h3 (_, i) (List.mem_zipIdx_iff_getElem?.2 hti)
            simp only [Bool.or_eq_true] at h4
            have h5 := h4.resolve_left hb
            refine apart_of h5 ?_
            obtain ⟨s1, c1⟩ := hcanAll _ _ _ hruns _ (List.getElem_mem hi)
            obtain ⟨s2, c2⟩ := hcanAll _ _ _ hruns _ (List.getElem_mem hj)
            by_cases hq : (((steps base l rs)[j]).2.1.k.quiet || ((steps base l rs)[i]).2.1.k.quiet || (((steps base l rs)[j]).2.1.k.reads && ((steps base l rs)[i]).2.1.k.reads)) = true
            · simp only [Bool.or_eq_true, Bool.and_eq_true] at hq
              rcases hq with (hq | hq) | ⟨hq1, hq2⟩
              · obtain ⟨e1, e2⟩ := quiet_can hq c2
                unfold apartR; simp [e1, e2, keysOf]
              · obtain ⟨e1, e2⟩ := quiet_can hq c1
                unfold apartR; simp [e1, e2, keysOf]
              · have e1 := reads_can hq1 c2
                have e2 := reads_can hq2 c1
                unfold apartR; simp [e1, e2, keysOf]
            · have hmem : (i, j) ∈ pairsOf (befL ops.toList) l := by
                unfold pairsOf
                rw [List.mem_flatMap]
                refine ⟨(_, j), List.mem_zipIdx_iff_getElem?.2 b2, ?_⟩
                rw [List.mem_filterMap]
                refine ⟨(_, i), List.mem_zipIdx_iff_getElem?.2 hti, ?_⟩
                rw [if_neg]
                simp only [Bool.or_eq_true] at hq ⊢
                intro hc
                rcases hc with ((hc | hc) | hc) | hc
                · exact hb hc
                · exact hq (Or.inl (Or.inl hc))
                · exact hq (Or.inl (Or.inr hc))
                · exact hq (Or.inr hc)
              obtain ⟨ra, rb, e1, e2, e3⟩ := hprs (i, j) hmem
              rw [a3] at e1; injection e1 with e1; subst e1
              rw [b3] at e2; injection e2 with e2; subst e2
              exact e3
        · intro i o ho hi
          rw [Array.getD_eq_getD_getElem?] at hi
          have hlt := (Array.getElem?_eq_some_iff.1 ho).1
          simp [hlt] at hi
      · simp at hsl
  · simp at hsl

end
end Go.Sx
