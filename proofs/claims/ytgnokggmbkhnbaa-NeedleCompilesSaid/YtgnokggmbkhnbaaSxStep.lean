/- Every operation that calls nothing: what it does in the machine is what its slim twin does. No statement of a seat is proved here. -/
import Derived.Test.YtgnokggmbkhnbaaSxSim8
set_option linter.unusedSimpArgs false
set_option linter.unusedVariables false
namespace Go.Sx
section
variable {P : Program} {E : Env} {F : Frm} {w : World} {A : Nat → Prop} {φ : Nat → Nat} {G : Nat → Option (List T)} {st : St} {n : Nat} {a : Act}

/-- What an operation has come to. -/
def Ran (P : Program) (E : Env) (F : Frm) (st : St) (A : Nat → Prop) (φ : Nat → Nat) (w : World) (s : Sem Next) (x : AV) (sto' : Nat → Option Ob) : Prop :=
  ∃ nx v w' A' φ', s.run P w = .ok nx w' ∧ (nx = .value v ∨ (nx = .skip ∧ v = undef)) ∧ Did E F st.sto A φ w x v sto' w' A' φ'

theorem ran_v {s : Sem Value} {x : AV} {v : Value} {w' : World} {A' : Nat → Prop} {φ' : Nat → Nat} {sto' : Nat → Option Ob} (h : s.run P w = .ok v w') (d : Did E F st.sto A φ w x v sto' w' A' φ') :
    Ran P E F st A φ w (do pure (.value (← s)) : Sem Next) x sto' := by
  refine ⟨.value v, v, w', A', φ', ?_, Or.inl rfl, d⟩
  show (s >>= fun v => pure (.value v) : Sem Next).run P w = _
  rw [Sem.run_bind, h]; rfl

theorem sim_op (hG : GOK E G) (h : RS E F st.sto w A φ) (r : RE st n a w A φ) {o : Oper} {so : SOp} (hs : slimOp P G o.op = some so) {id : Nat} {x : AV} {wr : List (Nat × Ob)}
    (hc : core id so (·.ev st.env) st.sto = some (x, wr)) : Ran P E F st A φ w (execOp a.eval o) x (applyWr st.sto wr) := by
  obtain ⟨dst, op, ty, pos, after, guard⟩ := o
  simp only at hs
  cases op with
  | move y =>
    simp only [slimOp, Option.map_eq_some_iff] at hs
    obtain ⟨sv, hy, rfl⟩ := hs
    simp only [core, Option.some.injEq, Prod.mk.injEq] at hc
    obtain ⟨rfl, rfl⟩ := hc
    have ev := ev_ok hG h r hy
    exact ⟨.value (a.eval y), _, w, A, φ, rfl, Or.inl rfl, Did.same h ev.1 ev.2⟩
  | assign y =>
    simp only [slimOp, Option.map_eq_some_iff] at hs
    obtain ⟨sv, hy, rfl⟩ := hs
    simp only [core, Option.some.injEq, Prod.mk.injEq] at hc
    obtain ⟨rfl, rfl⟩ := hc
    have ev := ev_ok hG h r hy
    exact ⟨.value (a.eval y), _, w, A, φ, rfl, Or.inl rfl, Did.same h ev.1 ev.2⟩
  | pick c p q =>
    simp only [slimOp] at hs
    split at hs
    · rename_i cs ps qs hcs hps hqs
      injection hs with hs; subst hs
      simp only [core] at hc
      split at hc
      · rename_i t hct
        simp only [Option.some.injEq, Prod.mk.injEq] at hc
        obtain ⟨rfl, rfl⟩ := hc
        have ec := (ev_ok hG h r hcs).1
        rw [hct] at ec
        have e1 := ev_ok hG h r hps
        have e2 := ev_ok hG h r hqs
        refine ⟨.value (if t then a.eval p else a.eval q), _, w, A, φ, ?_, Or.inl rfl, ?_⟩
        · simp only [execOp, (ca_v ec).1, asBool, Sem.run_bind, Sem.run_pure, Result.andThen_ok]
        · cases t with
          | true => exact Did.same h e1.1 e1.2
          | false => exact Did.same h e2.1 e2.2
      · simp at hc
    · simp at hs
  | alloc t =>
    simp only [slimOp, Option.map_eq_some_iff] at hs
    obtain ⟨z, hz, rfl⟩ := hs
    simp only [core] at hc
    split at hc
    · rename_i hn
      simp only [Option.some.injEq, Prod.mk.injEq] at hc
      obtain ⟨rfl, rfl⟩ := hc
      obtain ⟨zv, z1, z2, z3, z4⟩ := zero_ok hz
      refine ran_v (s := Instr.alloc t true (.tuple #[])) (w' := w.alloc (.cells zv.cells t)) ?_ (new_var h hn t (z2 A φ w) z3 (fun j hj => by rw [idsL_map_t] at hj; simp at hj))
      simp only [Instr.alloc, Sem.run_bind, z1, Result.andThen_ok, newVar, newRow, run_newObj, Sem.run_pure]
      rfl
    · simp at hc
  | box t y =>
    simp only [slimOp, Option.map_eq_some_iff] at hs
    obtain ⟨sv, hy, rfl⟩ := hs
    simp only [core] at hc
    split at hc
    · rename_i hn
      simp only [Option.some.injEq, Prod.mk.injEq] at hc
      obtain ⟨rfl, rfl⟩ := hc
      have ev := ev_ok hG h r hy
      have hcs := cells_ok hn.2 ev.1
      refine ran_v (s := Instr.box t (a.eval y)) (w' := w.alloc (.cells (a.eval y).cells t)) ?_ (new_var h hn.1 t hcs.1 hcs.2 (fun j hj => by rw [ids_cells] at hj; exact ev.2 j hj))
      simp only [Instr.box, Sem.run_bind, Result.andThen_ok, newVar, newRow, run_newObj, Sem.run_pure]
      rfl
    · simp at hc
  | build t ps =>
    obtain ⟨v, hr, hd⟩ := sim_build hG h r hs hc
    exact ran_v hr hd
  | buildSlice t len ps =>
    obtain ⟨v, w', φ', hr, hd⟩ := sim_bsl hG h r hs hc
    exact ran_v hr hd
  | load t y =>
    simp only [slimOp] at hs
    split at hs
    · rename_i d m sv hu hm hy
      injection hs with hs; subst hs
      have ev := ev_ok hG h r hy
      have hc' : core id (.load (isAggD d) m sv) (fun _ => sv.ev st.env) st.sto = some (x, wr) := by
        have := core_local (id := id) (o := .load (isAggD d) m sv) (ρ := (·.ev st.env)) (ρ' := fun _ => sv.ev st.env) (sto := st.sto) (sto' := st.sto) (fun y hy => by simp [SOp.svs] at hy; rw [hy]) (fun _ _ => rfl)
        rw [this.1]; exact hc
      obtain ⟨rfl, v, hr, h1, h2⟩ := sim_load h hu hm ev.1 hc'
      exact ran_v hr (Did.same h h1 h2)
    · simp at hs
  | store t y v =>
    simp only [slimOp] at hs
    split at hs
    · rename_i m ys vs hm hy hv
      injection hs with hs; subst hs
      obtain ⟨w', hr, hd⟩ := sim_store h hm (ev_ok hG h r hy).1 (ev_ok hG h r hv).1 (ev_ok hG h r hv).2 hc
      refine ⟨.skip, undef, w', A, φ, ?_, Or.inr ⟨rfl, rfl⟩, hd⟩
      show (Instr.storeAt t (a.eval y) (a.eval v) >>= fun _ => pure .skip : Sem Next).run P w = _
      rw [Sem.run_bind, hr]; rfl
    · simp at hs
  | nilCheck y =>
    simp only [slimOp, Option.map_eq_some_iff] at hs
    obtain ⟨sv, hy, rfl⟩ := hs
    have ev := ev_ok hG h r hy
    simp only [core] at hc
    have fin : ∀ {z : AV}, sv.ev st.env = z → some (z, ([] : List (Nat × Ob))) = some (x, wr) → (execOp a.eval ⟨dst, .nilCheck y, ty, pos, after, guard⟩).run P w = .ok (.value (a.eval y)) w →
        Ran P E F st A φ w (execOp a.eval ⟨dst, .nilCheck y, ty, pos, after, guard⟩) x (applyWr st.sto wr) := by
      intro z hz hx hrun
      simp only [Option.some.injEq, Prod.mk.injEq] at hx
      obtain ⟨rfl, rfl⟩ := hx
      rw [hz] at ev
      exact ⟨_, _, w, A, φ, hrun, Or.inl rfl, Did.same h ev.1 ev.2⟩
    split at hc
    · rename_i hz
      refine fin hz hc ?_
      have := ev.1; rw [hz] at this; simp only [CA] at this; simp only [execOp, this, Sem.run_pure]
    · rename_i hz
      refine fin hz hc ?_
      have := ev.1; rw [hz] at this; simp only [CA] at this; simp only [execOp, this, Sem.run_pure]
    · rename_i hz
      refine fin hz hc ?_
      have := ev.1; rw [hz] at this; simp only [CA] at this; obtain ⟨b, o, hv, _⟩ := this; simp only [execOp, hv, Sem.run_pure]
    · rename_i hz
      refine fin hz hc ?_
      have := ev.1; rw [hz] at this; simp only [CA] at this; obtain ⟨us, ys, hv, _⟩ := this; simp only [execOp, hv, Sem.run_pure]
    · simp at hc
  | binOp op t y z tz =>
    have done : ∀ {v : Value}, (do eqGuard op t y z (a.eval y) (a.eval z); binOp op t (a.eval y) (a.eval z) : Sem Value).run P w = .ok v w → v.oneCell' = true → (x, wr) = (AV.t (.v v), []) → Ran P E F st A φ w (execOp a.eval ⟨dst, .binOp op t y z tz, ty, pos, after, guard⟩) x (applyWr st.sto wr) := by
      intro v hr h1 he
      injection he with he1 he2; subst he1; subst he2
      exact ran_v hr (Did.same h (ca_mk h1) (by simp [AV.ids]))
    have bin : ∀ {ys zs : SV}, slimV G y = some ys → slimV G z = some zs → core id (.bin op ys zs) (·.ev st.env) st.sto = some (x, wr) → Ran P E F st A φ w (execOp a.eval ⟨dst, .binOp op t y z tz, ty, pos, after, guard⟩) x (applyWr st.sto wr) := by
      intro ys zs hy hz hc
      simp only [core, Option.map_eq_some_iff] at hc
      obtain ⟨v, hv, he⟩ := hc
      obtain ⟨r1, r2⟩ := run_bin (t := t) (x := y) (y := z) hv (ev_ok hG h r hy).1 (ev_ok hG h r hz).1
      exact done r1 r2 he.symm
    have beq : ∀ {neg : Bool} {ys zs : SV}, P.underlying t = some .bool → op = (if neg then .neq else .eql) → slimV G y = some ys → slimV G z = some zs → core id (.beq neg ys zs) (·.ev st.env) st.sto = some (x, wr) → Ran P E F st A φ w (execOp a.eval ⟨dst, .binOp op t y z tz, ty, pos, after, guard⟩) x (applyWr st.sto wr) := by
      intro neg ys zs hu hop hy hz hc
      simp only [core] at hc
      split at hc
      · rename_i p q hp hq
        have e1 := (ev_ok hG h r hy).1; rw [hp] at e1
        have e2 := (ev_ok hG h r hz).1; rw [hq] at e2
        refine done (v := .bool (if neg then !(p == q) else p == q)) ?_ rfl (by injection hc with hc; exact hc.symm)
        rw [(ca_v e1).1, (ca_v e2).1, hop]
        exact run_beq hu
      · simp at hc
    have eqf : ∀ {neg : Bool} {ks : List EK} {ys zs : SV}, (P.underlying t).any isAggD = true → P.eqGuardType P.depth t = false → flat P 20 t = some ks → op = (if neg then .neq else .eql) → slimV G y = some ys → slimV G z = some zs → core id (.eqf neg ks ys zs) (·.ev st.env) st.sto = some (x, wr) → Ran P E F st A φ w (execOp a.eval ⟨dst, .binOp op t y z tz, ty, pos, after, guard⟩) x (applyWr st.sto wr) := by
      intro neg ks ys zs hu hgt hf hop hy hz hc
      simp only [core] at hc
      split at hc
      · rename_i p q hp hq
        simp only [Option.map_eq_some_iff] at hc
        obtain ⟨b, hb, he⟩ := hc
        have e1 := (ev_ok hG h r hy).1; rw [hp] at e1
        have e2 := (ev_ok hG h r hz).1; rw [hq] at e2
        have := run_eqf (op := op) (t := t) (x := y) (y := z) (by rw [hop]; cases neg <;> simp) hu hgt hf e1 e2 hb
        refine done this rfl ?_
        rw [← he]
        subst hop
        cases neg <;> simp
      · simp at hc
    simp only [slimOp] at hs
    split at hs
    · rename_i k ys zs hu hy hz
      injection hs with hs; subst hs; exact bin hy hz hc
    · rename_i ys zs hu hy hz
      injection hs with hs; subst hs; exact bin hy hz hc
    · rename_i e ys hu hy hz
      have isnil : ∀ {neg : Bool}, op = (if neg then .neq else .eql) → core id (.isnil neg ys) (·.ev st.env) st.sto = some (x, wr) → Ran P E F st A φ w (execOp a.eval ⟨dst, .binOp op t y z tz, ty, pos, after, guard⟩) x (applyWr st.sto wr) := by
        intro neg hop hc
        obtain ⟨q, m, cp, hv, he⟩ := isnil_ok (ev_ok hG h r hy).1 hc
        have e2 := (ev_ok hG h r hz).1
        refine done ?_ rfl he
        rw [hv, (ca_v e2).1, hop]
        exact run_isnil hu
      split at hs
      · injection hs with hs; subst hs; exact isnil rfl hc
      · injection hs with hs; subst hs; exact isnil rfl hc
      · simp at hs
    · rename_i ys zs hu hy hz
      split at hs
      · injection hs with hs; subst hs; exact beq hu rfl hy hz hc
      · injection hs with hs; subst hs; exact beq hu rfl hy hz hc
      · simp at hs
    · rename_i fs ys zs hu hy hz
      split at hs
      · rename_i hgt
        split at hs
        · rename_i ks hf
          injection hs with hs; subst hs; exact eqf (by rw [hu]; rfl) hgt hf rfl hy hz hc
        · rename_i ks hf
          injection hs with hs; subst hs; exact eqf (by rw [hu]; rfl) hgt hf rfl hy hz hc
        · simp at hs
      · simp at hs
    · rename_i l e ys zs hu hy hz
      split at hs
      · rename_i hgt
        split at hs
        · rename_i ks hf
          injection hs with hs; subst hs; exact eqf (by rw [hu]; rfl) hgt hf rfl hy hz hc
        · rename_i ks hf
          injection hs with hs; subst hs; exact eqf (by rw [hu]; rfl) hgt hf rfl hy hz hc
        · simp at hs
      · simp at hs
    · simp at hs
  | unOp op t y =>
    simp only [slimOp, Option.map_eq_some_iff] at hs
    obtain ⟨sv, hy, rfl⟩ := hs
    simp only [core, Option.map_eq_some_iff] at hc
    obtain ⟨v, hv, he⟩ := hc
    injection he with he1 he2; subst he1; subst he2
    obtain ⟨r1, r2⟩ := run_un (P := P) hv (ev_ok hG h r hy).1
    exact ran_v r1 (Did.same h (ca_mk r2) (by simp [AV.ids]))
  | convert s d y =>
    simp only [slimOp] at hs
    split at hs
    · rename_i k0 k sv hu hu2 hy
      injection hs with hs; subst hs
      simp only [core] at hc
      split at hc
      · rename_i k1 m hv
        simp only [Option.some.injEq, Prod.mk.injEq] at hc
        obtain ⟨rfl, rfl⟩ := hc
        have e1 := (ev_ok hG h r hy).1; rw [hv] at e1
        refine ran_v (s := convert s d (a.eval y)) (v := .int k (k.wrap m)) (w' := w) ?_ (Did.same h (ca_mk rfl) (by simp [AV.ids]))
        rw [(ca_v e1).1]
        simp [convert, run_underlying hu, run_underlying hu2, Conv.intToInt]
      · simp at hc
    · simp at hs
  | fieldAddr t y i =>
    simp only [slimOp] at hs
    split at hs
    · rename_i fs hu
      split at hs
      · rename_i f sv hf hy
        split at hs
        · rename_i m hm
          split at hs
          · rename_i h0
            injection hs with hs; subst hs
            have ev := ev_ok hG h r hy
            simp only [core] at hc
            split at hc
            case h_2 => simp at hc
            rename_i x' hx1
            simp only [Option.some.injEq, Prod.mk.injEq] at hc
            obtain ⟨rfl, rfl⟩ := hc
            obtain ⟨b, hb, hca, hid⟩ := ca_add ev.1 hx1
            refine ran_v (s := Instr.fieldAt t (a.eval y) i) (v := .pointer (some (b.add f.offset))) (w' := w) ?_ (Did.same h hca (fun j hj => ev.2 j (by rw [← hid]; exact hj)))
            rw [hb]; exact run_fieldAt hu hf hm h0 b
          · simp at hs
        · simp at hs
      · simp at hs
    · simp at hs
  | field t y i =>
    simp only [slimOp] at hs
    split at hs
    · rename_i fs hu
      split at hs
      · rename_i f sv hf hy
        split at hs
        · rename_i m d hm hd
          injection hs with hs; subst hs
          have ev := ev_ok hG h r hy
          simp only [core] at hc
          split at hc
          · rename_i cs hv
            simp only [Option.map_eq_some_iff] at hc
            obtain ⟨v, hv2, he⟩ := hc
            injection he with he1 he2; subst he1; subst he2
            have e1 := ev.1; rw [hv] at e1
            simp only [CA] at e1
            obtain ⟨ys, hys, hcs⟩ := e1
            obtain ⟨u, hr, hca, hid⟩ := run_partA hd hm hcs hv2
            refine ran_v (s := Instr.field t (a.eval y) i) (v := u) (w' := w) ?_ (Did.same h hca (fun j hj => ev.2 j (by rw [hv]; simp only [AV.ids]; exact hid j hj)))
            rw [hys]
            simp only [Instr.field, Sem.run_bind, run_underlying hu, Result.andThen_ok, hf, asAgg, Sem.run_pure, hr]
          · simp at hc
        · simp at hs
      · simp at hs
    · simp at hs
  | indexAddr t y i =>
    simp only [slimOp] at hs
    split at hs
    · rename_i len e ys is hu hy hi
      simp only [Option.map_eq_some_iff] at hs
      obtain ⟨m, hm, rfl⟩ := hs
      have ev := ev_ok hG h r hy
      simp only [core] at hc
      split at hc
      · rename_i k q hq
        have ei := (ev_ok hG h r hi).1; rw [hq] at ei
        split at hc
        · rename_i h0
          split at hc
          · rename_i h1
            split at hc
            case h_2 => simp at hc
            rename_i x' hx1
            simp only [Option.some.injEq, Prod.mk.injEq] at hc
            obtain ⟨rfl, rfl⟩ := hc
            obtain ⟨b, hb, hca, hid⟩ := ca_add ev.1 hx1
            refine ran_v (s := Instr.indexAt t (a.eval y) (a.eval i)) (v := .pointer (some (b.add (q.toNat * m)))) (w' := w) ?_ (Did.same h hca (fun j hj => ev.2 j (by rw [← hid]; exact hj)))
            rw [hb, (ca_v ei).1]; exact run_indexAt_arr hu hm b h0 h1
          · simp at hc
        · simp at hc
      · simp at hc
    · rename_i e ys is hu hy hi
      simp only [Option.map_eq_some_iff] at hs
      obtain ⟨m, hm, rfl⟩ := hs
      have ev := ev_ok hG h r hy
      simp only [core] at hc
      split at hc
      · rename_i k q hq
        have ei := (ev_ok hG h r hi).1; rw [hq] at ei
        split at hc
        · rename_i h0
          split at hc
          · rename_i j s off l rr hv
            split at hc
            · rename_i h1
              obtain ⟨h1, rfl⟩ := h1
              simp only [Option.some.injEq, Prod.mk.injEq] at hc
              obtain ⟨rfl, rfl⟩ := hc
              have e1 := ev.1; rw [hv] at e1
              simp only [CA] at e1
              obtain ⟨ba, cap, hvv, hle, hrf, hroom⟩ := e1
              rcases hroom with hroom | ⟨hba, hrc⟩
              · omega
              refine ran_v (s := Instr.indexAt t (a.eval y) (a.eval i)) (w' := w) (by rw [hvv, hba, (ca_v ei).1]; exact run_indexAt_sl hu hm _ h0 h1) (Did.same h ?_ (fun j' hj' => ev.2 j' (by rw [hv]; simpa [AV.ids] using hj')))
              simp only [CA, addr_add, Nat.add_mul, Nat.add_zero]
            · simp at hc
          · rename_i s es hv
            split at hc
            · rename_i hss; subst hss
              split at hc
              · rename_i ee hee
                simp only [Option.some.injEq, Prod.mk.injEq] at hc
                obtain ⟨rfl, rfl⟩ := hc
                have e1 := ev.1; rw [hv] at e1
                simp only [CA, CT] at e1
                obtain ⟨ba, cap, hvv, hle, hroom⟩ := e1
                have hlt := (List.getElem?_eq_some_iff.1 hee).1
                rcases hroom with hroom | ⟨b, o, hba, hA, hrows⟩
                · subst hroom; simp at hlt
                refine ran_v (s := Instr.indexAt t (a.eval y) (a.eval i)) (w' := w) (by rw [hvv, hba, (ca_v ei).1]; exact run_indexAt_sl hu hm _ h0 (by omega)) (Did.same h ?_ (by simp [AV.ids]))
                simp only [CA, addr_add]
                exact ⟨b, o + q.toNat * s, rfl, hA, (hrows.get hee).2⟩
              · simp at hc
            · simp at hc
          · simp at hc
        · simp at hc
      · simp at hc
    · simp at hs
  | index t y i =>
    simp only [slimOp] at hs
    split at hs
    · rename_i len e ys is hu hy hi
      split at hs
      · rename_i m d hm hd
        injection hs with hs; subst hs
        have ev := ev_ok hG h r hy
        simp only [core] at hc
        split at hc
        · rename_i k q hq
          have ei := (ev_ok hG h r hi).1; rw [hq] at ei
          split at hc
          · rename_i h0
            split at hc
            · rename_i l' s' g' cs he hv
              injection he with he; injection he with he1 he2; injection he2 with he2 he3
              subst he1; subst he2; subst he3
              split at hc
              · rename_i h1
                simp only [Option.map_eq_some_iff] at hc
                obtain ⟨v, hv2, he⟩ := hc
                injection he with he1 he2; subst he1; subst he2
                have e1 := ev.1; rw [hv] at e1
                simp only [CA] at e1
                obtain ⟨us, hys, hcs⟩ := e1
                obtain ⟨u, hr, hca, hid⟩ := run_partA hd hm hcs hv2
                refine ran_v (s := Instr.index t (a.eval y) (a.eval i)) (v := u) (w' := w) ?_ (Did.same h hca (fun j hj => ev.2 j (by rw [hv]; simp only [AV.ids]; exact hid j hj)))
                rw [hys, (ca_v ei).1, run_index_arr hu hm us h0 h1, hr]
              · simp at hc
            · rename_i he _; simp at he
            · simp at hc
          · simp at hc
        · simp at hc
      · simp at hs
    · rename_i ys is hu hy hi
      injection hs with hs; subst hs
      have ev := ev_ok hG h r hy
      simp only [core] at hc
      split at hc
      · rename_i k q hq
        have ei := (ev_ok hG h r hi).1; rw [hq] at ei
        split at hc
        · rename_i h0
          split at hc
          · rename_i he _; simp at he
          · rename_i s _ hv
            split at hc
            · rename_i b hb
              simp only [Option.some.injEq, Prod.mk.injEq] at hc
              obtain ⟨rfl, rfl⟩ := hc
              have e1 := ev.1; rw [hv] at e1
              refine ran_v (s := Instr.index t (a.eval y) (a.eval i)) (w' := w) (by rw [(ca_v e1).1, (ca_v ei).1]; exact run_index_str hu s h0 hb) (Did.same h (ca_mk rfl) (by simp [AV.ids]))
            · simp at hc
          · simp at hc
        · simp at hc
      · simp at hc
    · simp at hs
  | extract y i =>
    simp only [slimOp, Option.map_eq_some_iff] at hs
    obtain ⟨sv, hy, rfl⟩ := hs
    have ev := ev_ok hG h r hy
    simp only [core] at hc
    split at hc
    · rename_i vs hv
      split at hc
      · rename_i u hu
        simp only [Option.some.injEq, Prod.mk.injEq] at hc
        obtain ⟨rfl, rfl⟩ := hc
        have e1 := ev.1; rw [hv] at e1
        simp only [CA] at e1
        obtain ⟨ys, hys, hcs⟩ := e1
        obtain ⟨z, hz, hca⟩ := hcs.get hu
        refine ran_v (s := Instr.extract (a.eval y) i) (v := z) (w' := w) ?_ (Did.same h hca (fun j hj => ev.2 j (by rw [hv]; simp only [AV.ids]; exact idsL_mem.2 ⟨u, List.mem_of_getElem? hu, hj⟩)))
        rw [hys]
        simp only [Array.getElem?_toList] at hz
        simp [Instr.extract, hz]
      · simp at hc
    · simp at hc
  | makeFunc fn first caps =>
    cases fn with
    | func f =>
      simp only [slimOp] at hs
      split at hs
      · rename_i fs cs hfs hcs
        injection hs with hs; subst hs
        simp only [core, Option.some.injEq, Prod.mk.injEq] at hc
        obtain ⟨rfl, rfl⟩ := hc
        have e1 := evs_ok hG h r hfs
        have e2 := evs_ok hG h r hcs
        refine ran_v (s := Instr.makeFunc (.func f) (first.map a.eval) (caps.map a.eval)) (w' := w) rfl (Did.same h ?_ (fun j hj => ?_))
        · simp only [CA]; exact ⟨_, _, rfl, by simpa using e1.1, by simpa using e2.1⟩
        · simp only [AV.ids, List.mem_append] at hj
          exact hj.elim (e1.2 j) (e2.2 j)
      · simp at hs
    | _ => simp [slimOp] at hs
  | makeSlice t l c =>
    obtain ⟨v, w', φ', hr, hd⟩ := sim_mksl hG h r hs hc
    exact ran_v hr hd
  | slice t y lo hi mx =>
    cases mx with
    | none =>
      obtain ⟨v, hr, hd⟩ := sim_sli hG h r hs hc
      exact ran_v hr hd
    | some m => simp [slimOp] at hs
  | call c =>
    obtain ⟨callee, args, ts⟩ := c
    cases callee with
    | builtin b =>
      have hres : ∀ {bb : Builtin}, b = bb → (execOp a.eval ⟨dst, .call ⟨.builtin b, args, ts⟩, ty, pos, after, guard⟩).run P w = (builtin bb ts ty (args.map fun | .const _ => true | _ => false) (args.map a.eval)).run P w := by
        intro bb hb; subst hb; rfl
      cases b with
      | len =>
        have hs' := hs
        simp only [slimOp] at hs
        split at hs
        · rename_i t y ht hy0
          have hrun : ∀ {str : Bool} {ys : SV}, slimV G y = some ys → (if str then P.underlying t = some .string else ∃ e, P.underlying t = some (.slice e)) → core id (.len str ys) (·.ev st.env) st.sto = some (x, wr) → Ran P E F st A φ w (execOp a.eval ⟨dst, .call ⟨.builtin .len, args, ts⟩, ty, pos, after, guard⟩) x (applyWr st.sto wr) := by
            intro str ys hy hu hc
            simp only [core] at hc
            split at hc
            · rename_i hstr
              simp only [Option.map_eq_some_iff] at hc
              obtain ⟨m, hm, he⟩ := hc
              injection he with he1 he2; subst he1; subst he2
              have hl := run_len (P := P) (ty := ty) hu hm hstr (ev_ok hG h r hy).1 ts (args.map a.eval) ht (by simp [hy0])
              refine ⟨.value (.int .i64 m), .int .i64 m, w, A, φ, ?_, Or.inl rfl, Did.same h (ca_mk rfl) (by simp [AV.ids])⟩
              rw [hres rfl]
              simp only [builtin, Sem.run_bind, hl, Result.andThen_ok, Sem.run_pure]
            · simp at hc
          split at hs
          · rename_i hu
            simp only [Option.map_eq_some_iff] at hs
            obtain ⟨ys, hy, rfl⟩ := hs
            exact hrun hy (by simpa using hu) hc
          · rename_i e hu
            simp only [Option.map_eq_some_iff] at hs
            obtain ⟨ys, hy, rfl⟩ := hs
            exact hrun hy (by simp [hu]) hc
          · simp at hs
        · simp at hs
      | append =>
        obtain ⟨v, w', φ', hr, hd⟩ := sim_app (ty := ty) hG h r hs hc
        refine ⟨.value v, v, w', A, φ', ?_, Or.inl rfl, hd⟩
        rw [hres rfl]
        simp only [builtin, Sem.run_bind, hr, Result.andThen_ok, Sem.run_pure]
      | copy =>
        obtain ⟨v, w', hr, hd⟩ := sim_cpy (ty := ty) hG h r hs hc
        refine ⟨.value v, v, w', A, φ, ?_, Or.inl rfl, hd⟩
        rw [hres rfl]
        simp only [builtin, Sem.run_bind, hr, Result.andThen_ok, Sem.run_pure]
      | clear =>
        obtain ⟨v, w', hr, hd⟩ := sim_clr (ty := ty) hG h r hs hc
        refine ⟨.value v, v, w', A, φ, ?_, Or.inl rfl, hd⟩
        rw [hres rfl]
        simp only [builtin, Sem.run_bind, hr, Result.andThen_ok, Sem.run_pure]
      | max =>
        simp only [slimOp, Option.map_eq_some_iff] at hs
        obtain ⟨ss, hss, rfl⟩ := hs
        simp only [core] at hc
        split at hc
        · rename_i k p k' q hpq
          split at hc
          · rename_i hk; subst hk
            simp only [if_true, Option.some.injEq, Prod.mk.injEq] at hc
            obtain ⟨rfl, rfl⟩ := hc
            have ev := (evs_ok hG h r hss).1
            rw [hpq] at ev
            simp only [CAs] at ev
            obtain ⟨z, zs, hz, h1, z2, zs2, rfl, h2, rfl⟩ := ev
            rw [(ca_v h1).1, (ca_v h2).1] at hz
            have harr : args.map a.eval = #[.int k p, .int k q] := by
              apply Array.ext'; simpa using hz
            refine ⟨.value (.int k (max p q)), _, w, A, φ, ?_, Or.inl rfl, Did.same h (ca_mk rfl) (by simp [AV.ids])⟩
            rw [hres rfl, harr]
            have hm : (if q > p then q else p) = max p q := by simp only [Int.max_def]; split <;> split <;> omega
            simp [builtin, Builtin.max_, Builtin.max2, hm]
          · simp at hc
        · simp at hc
      | min =>
        simp only [slimOp, Option.map_eq_some_iff] at hs
        obtain ⟨ss, hss, rfl⟩ := hs
        simp only [core] at hc
        split at hc
        · rename_i k p k' q hpq
          split at hc
          · rename_i hk; subst hk
            simp only [Bool.false_eq_true, if_false, Option.some.injEq, Prod.mk.injEq] at hc
            obtain ⟨rfl, rfl⟩ := hc
            have ev := (evs_ok hG h r hss).1
            rw [hpq] at ev
            simp only [CAs] at ev
            obtain ⟨z, zs, hz, h1, z2, zs2, rfl, h2, rfl⟩ := ev
            rw [(ca_v h1).1, (ca_v h2).1] at hz
            have harr : args.map a.eval = #[.int k p, .int k q] := by
              apply Array.ext'; simpa using hz
            refine ⟨.value (.int k (min p q)), _, w, A, φ, ?_, Or.inl rfl, Did.same h (ca_mk rfl) (by simp [AV.ids])⟩
            rw [hres rfl, harr]
            have hm : (if q < p then q else p) = min p q := by simp only [Int.min_def]; split <;> split <;> omega
            simp [builtin, Builtin.min_, Builtin.min2, hm]
          · simp at hc
        · simp at hc
      | _ => simp [slimOp] at hs
    | value f => simp [slimOp] at hs
    | invoke f m => simp [slimOp] at hs
  | _ => simp [slimOp] at hs

end
end Go.Sx
