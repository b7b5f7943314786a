/- Pieces of slices and texts; append. No statement of a seat is proved here. -/
import Derived.Test.YtgnokggmbkhnbaaSxSim5
set_option linter.unusedSimpArgs false
set_option linter.unusedVariables false
namespace Go.Sx
section
variable {P : Program} {E : Env} {F : Frm} {sto : Nat → Option Ob} {w : World} {A : Nat → Prop} {φ : Nat → Nat}

theorem run_bounds {isSlice : Bool} {len cap : Nat} {lo hi : Option Value} {l h : Int} (hlo : match lo with | none => l = 0 | some v => ∃ k, v = .int k l) (hhi : match hi with | none => h = len | some v => ∃ k, v = .int k h)
    (h0 : 0 ≤ l) (h1 : l ≤ h) (h2 : h ≤ len) (h3 : len ≤ cap) : (Instr.sliceBounds isSlice len cap lo hi none).run P w = .ok (l.toNat, h.toNat, cap) w := by
  have hh : (match hi, (none : Option Value) with
    | some v, some _ => Instr.sliceBound v cap (if isSlice then .slice3B else .slice3B)
    | some v, none => Instr.sliceBound v cap (if isSlice then .sliceAcap else .sliceAlen)
    | none, none => pure len
    | none, some _ => stuck "Slice: max without high" : Sem Nat).run P w = .ok h.toNat w := by
    cases hi with
    | none => simp only at hhi; simp [hhi]
    | some v =>
      obtain ⟨k, rfl⟩ := hhi
      have : 0 ≤ h ∧ h ≤ (cap : Int) := by omega
      simp [Instr.sliceBound, asIntOf, this]
  have hl : (match lo with
    | some v => Instr.sliceBound v h.toNat .sliceB
    | none => pure 0 : Sem Nat).run P w = .ok l.toNat w := by
    cases lo with
    | none => simp only at hlo; simp [hlo]
    | some v =>
      obtain ⟨k, rfl⟩ := hlo
      have : 0 ≤ l ∧ l ≤ (h.toNat : Int) := by omega
      simp only [Instr.sliceBound, asIntOf, Sem.run_bind, Sem.run_pure, Result.andThen_ok, this, and_self, if_true]
  unfold Instr.sliceBounds
  cases hi with
  | none =>
    simp only at hhi
    simp only [Sem.run_bind, Sem.run_pure, Result.andThen_ok] at hh ⊢
    injection hh with hh; rw [hh]
    cases lo with
    | none => simp only at hlo; simp [hlo]
    | some v => simp only [Sem.run_bind, Option.isSome_none, Bool.false_eq_true, if_false, hl, Result.andThen_ok, Sem.run_pure]
  | some u =>
    simp only [Sem.run_bind, Sem.run_pure, Result.andThen_ok] at hh ⊢
    rw [hh]
    simp only [Result.andThen_ok]
    cases lo with
    | none => simp only at hlo; simp [hlo]
    | some v => simp only [Sem.run_bind, Option.isSome_none, Bool.false_eq_true, if_false, hl, Result.andThen_ok, Sem.run_pure]

theorem ct_sl_cut {sz : Nat} {es : List (List T)} {a : Option Addr} {cap l h : Nat} (hx : CT A w (.sl sz es) (.slice a es.length cap)) (h1 : l ≤ h) (h2 : h ≤ es.length) :
    CT A w (.sl sz ((es.drop l).take (h - l))) (.slice (if cap = l then a else a.map (·.add (l * sz))) (h - l) (cap - l)) := by
  simp only [CT] at hx ⊢
  obtain ⟨a', cap', he, hc, hr⟩ := hx
  injection he with he1 he2 he3; subst he1; subst he3
  have hlen : ((es.drop l).take (h - l)).length = h - l := by simp; omega
  refine ⟨_, cap - l, by rw [hlen], by rw [hlen]; omega, ?_⟩
  by_cases hz : (es.drop l).take (h - l) = []
  · exact Or.inl hz
  · rcases hr with hr | ⟨b, o, ha, hA, hr⟩
    · subst hr; simp at hz
    · refine Or.inr ⟨b, o + l * sz, ?_, hA, (hr.drop l).take _⟩
      have hne : ¬ cap = l := by
        intro hcl
        have : h - l = 0 := by omega
        rw [this] at hz; simp at hz
      rw [if_neg hne, ha]; simp [addr_add]

theorem sim_sli {G : Nat → Option (List T)} {st : St} {n : Nat} {a : Act} (hG : GOK E G) (h : RS E F st.sto w A φ) (r : RE st n a w A φ) {t : TypeId} {x : Operand} {lo hi : Option Operand} {so : SOp} (hs : slimOp P G (.slice t x lo hi none) = some so) {id : Nat} {y : AV} {wr : List (Nat × Ob)}
    (hc : core id so (·.ev st.env) st.sto = some (y, wr)) :
    ∃ v, (Instr.sliceAt t (a.eval x) (lo.map a.eval) (hi.map a.eval) none).run P w = .ok v w ∧ Did E F st.sto A φ w y v (applyWr st.sto wr) w A φ := by
  have key : ∀ (sz : Nat) (xs : SV) (los his : Option SV), slimV G x = some xs → slimO G lo = some los → slimO G hi = some his → core id (.sli sz xs los his) (·.ev st.env) st.sto = some (y, wr) →
      ((sz = 0 ∧ P.underlying t = some .string) ∨ (sz ≠ 0 ∧ ∃ e, P.underlying t = some (.slice e) ∧ sizeT P e = some sz)) →
      ∃ v, (Instr.sliceAt t (a.eval x) (lo.map a.eval) (hi.map a.eval) none).run P w = .ok v w ∧ Did E F st.sto A φ w y v (applyWr st.sto wr) w A φ := by
    intro sz xs los his hx hlo hhi hc ht
    have ev := ev_ok hG h r hx
    simp only [core] at hc
    split at hc
    · rename_i m hm
      split at hc
      · rename_i k1 l k2 hh hl0 hh0
        split at hc
        · rename_i hb
          obtain ⟨b1, b2, b3⟩ := hb
          have hlo' : match lo.map a.eval with | none => l = 0 | some v => ∃ k, v = .int k l := by
            cases lo with
            | none =>
              simp [slimO] at hlo; subst hlo
              simp at hl0; exact hl0.2.symm
            | some u =>
              simp only [slimO, Option.map_eq_some_iff] at hlo
              obtain ⟨us, hu, rfl⟩ := hlo
              simp only [Option.some.injEq] at hl0
              have eu := (ev_ok hG h r hu).1
              rw [hl0] at eu
              exact ⟨k1, (ca_v eu).1⟩
          have hhi' : match hi.map a.eval with | none => hh = m | some v => ∃ k, v = .int k hh := by
            cases hi with
            | none =>
              simp [slimO] at hhi; subst hhi
              simp at hh0; exact hh0.2.symm
            | some u =>
              simp only [slimO, Option.map_eq_some_iff] at hhi
              obtain ⟨us, hu, rfl⟩ := hhi
              simp only [Option.some.injEq] at hh0
              have eu := (ev_ok hG h r hu).1
              rw [hh0] at eu
              exact ⟨k2, (ca_v eu).1⟩
          have hnat : (hh - l).toNat = hh.toNat - l.toNat := by omega
          rcases lenA_ok hm ev.1 with ⟨s, hv, hsm, hxs⟩ | ⟨ba, cap, hv, hcap⟩
          · -- a text
            simp only [hxs] at hc
            split at hc
            · rename_i hsz0
              have hu : P.underlying t = some .string := by
                rcases ht with ht | ht
                · exact ht.2
                · exact absurd hsz0 ht.1
              simp only [Option.some.injEq, Prod.mk.injEq] at hc
              obtain ⟨rfl, rfl⟩ := hc
              rw [hv]
              refine ⟨.string (s.extract l.toNat hh.toNat), ?_, Did.same h (ca_mk rfl) (by simp [AV.ids])⟩
              simp only [Instr.sliceAt, Sem.run_bind, run_underlying hu, Result.andThen_ok, Instr.slice, Option.isSome_none, Bool.false_eq_true, if_false, Sem.run_pure]
              rw [run_bounds (len := s.size) (cap := s.size) hlo' (by rw [hsm]; exact hhi') b1 b2 (by rw [hsm]; exact b3) (Nat.le_refl _)]
              simp
            · simp at hc
          · -- a slice
            have hnz : sz ≠ 0 := by
              intro hz
              split at hc
              · rename_i s hxs
                have := ev.1; rw [hxs] at this
                have := (ca_v this).1; rw [hv] at this; cases this
              · simp [hz] at hc
              · simp [hz] at hc
              · simp [hz] at hc
              · simp at hc
            obtain ⟨e, hu, hsz⟩ : ∃ e, P.underlying t = some (.slice e) ∧ sizeT P e = some sz := by
              rcases ht with ht | ht
              · exact absurd ht.1 hnz
              · exact ht.2
            have hrun : (Instr.sliceAt t (.slice ba m cap) (lo.map a.eval) (hi.map a.eval) none).run P w = .ok (.slice (if cap = l.toNat then ba else ba.map (·.add (l.toNat * sz))) (hh.toNat - l.toNat) (cap - l.toNat)) w := by
              simp only [Instr.sliceAt, Sem.run_bind, run_underlying hu, Result.andThen_ok, Instr.slice]
              rw [run_bounds hlo' hhi' b1 b2 b3 hcap]
              simp only [Result.andThen_ok, run_sizeOf hsz, Sem.run_pure]
            rw [hv, hrun]
            have hca := ev.1; rw [hv] at hca
            refine ⟨_, rfl, ?_⟩
            split at hc
            · rename_i s hxs
              rw [hxs] at hca; have := (ca_v hca).1; cases this
            · rename_i s es hxs
              rw [hxs] at hca
              split at hc
              · rename_i hss; obtain ⟨rfl, _⟩ := hss
                simp only [Option.some.injEq, Prod.mk.injEq] at hc
                obtain ⟨rfl, rfl⟩ := hc
                simp only [CA] at hca
                have hmes : m = es.length := by simp only [CT] at hca; obtain ⟨_, _, he, _⟩ := hca; injection he
                subst hmes
                refine Did.same h ?_ (by simp [AV.ids])
                simp only [CA]
                rw [hnat]
                exact ct_sl_cut hca (by omega) (by omega)
              · simp at hc
            · rename_i j s off len0 r0 hxs
              rw [hxs] at hca
              split at hc
              · rename_i hss; obtain ⟨rfl, _⟩ := hss
                simp only [Option.some.injEq, Prod.mk.injEq] at hc
                obtain ⟨rfl, rfl⟩ := hc
                refine Did.same h ?_ (fun i hi => ?_)
                · simp only [CA] at hca ⊢
                  obtain ⟨a', cap', he, hle, hrf, hr⟩ := hca
                  injection he with he1 he2 he3; subst he1; subst he3
                  refine ⟨_, cap - l.toNat, by rw [hnat], by omega, fun hf => by have := hrf hf; omega, ?_⟩
                  by_cases hcl : cap = l.toNat
                  · exact Or.inl (by omega)
                  · rcases hr with hr | ⟨hr1, hr2⟩
                    · exact Or.inl (by omega)
                    · refine Or.inr ⟨?_, ?_⟩
                      · rw [if_neg hcl, hr1]; simp [addr_add, Nat.add_mul]
                      · rwa [show off + l.toNat + (cap - l.toNat) = off + cap from by omega]
                · simp only [AV.ids, List.mem_singleton] at hi; subst hi
                  exact ev.2 _ (by rw [hxs]; simp [AV.ids])
              · simp at hc
            · rename_i hxs
              rw [hxs] at hca hm
              rw [if_pos hnz] at hc
              simp only [Option.some.injEq, Prod.mk.injEq] at hc
              obtain ⟨rfl, rfl⟩ := hc
              have := (ca_v hca).1
              injection this with h1 h2 h3
              subst h1; subst h2; subst h3
              have e1 : l.toNat = 0 := by omega
              have e2 : hh.toNat = 0 := by omega
              rw [e1, e2]
              exact Did.same h (ca_mk rfl) (by simp [AV.ids])
            · simp at hc
        · simp at hc
      · simp at hc
    · simp at hc
  simp only [slimOp] at hs
  split at hs
  · rename_i xs los his hu hx hlo hhi
    injection hs with hs; subst hs
    exact key 0 xs los his hx hlo hhi hc (Or.inl ⟨rfl, hu⟩)
  · rename_i e xs los his hu hx hlo hhi
    split at hs
    · rename_i m hm
      split at hs
      · rename_i h0
        injection hs with hs; subst hs
        exact key m xs los his hx hlo hhi hc (Or.inr ⟨h0, e, hu, hm⟩)
      · simp at hs
    · simp at hs
  · simp at hs

end
end Go.Sx
