/- Every operation that calls nothing: what it does in the machine is what its slim twin does. No statement of a seat is proved here. -/
import Derived.Test.YtgmpceijcdimkaaGreatDoorSxC
import Derived.OrdersIn
import Derived.RangeFuncLeaves
set_option linter.unusedSimpArgs false
set_option linter.unusedVariables false
namespace Go.Sx
section
variable {P : Program} {E : Env} {F : Frm} {w : World} {A : Nat → Prop} {φ : Nat → Nat} {G : Nat → Option (List T)} {st : St} {n : Nat} {a : Act} {ds : List Deferred}

/-- What an operation has come to. -/
def Ran (P : Program) (E : Env) (F : Frm) (st : St) (A : Nat → Prop) (φ : Nat → Nat) (w : World) (s : Sem Next) (x : AV) (sto' : Nat → Option Ob) : Prop :=
  ∃ nx v w' A' φ', s.run P w = .ok nx w' ∧ (nx = .value v ∨ (nx = .skip ∧ v = undef)) ∧ Did E F st.sto A φ w x v sto' w' A' φ'

theorem ran_v {s : Sem Value} {x : AV} {v : Value} {w' : World} {A' : Nat → Prop} {φ' : Nat → Nat} {sto' : Nat → Option Ob} (h : s.run P w = .ok v w') (d : Did E F st.sto A φ w x v sto' w' A' φ') :
    Ran P E F st A φ w (do pure (.value (← s)) : Sem Next) x sto' := by
  refine ⟨.value v, v, w', A', φ', ?_, Or.inl rfl, d⟩
  show (s >>= fun v => pure (.value v) : Sem Next).run P w = _
  rw [Sem.run_bind, h]; rfl

theorem sim_op (hG : GOK E G) (h : RS E F st.sto w A φ) (r : RE ds st n a w A φ) {o : Oper} {so : SOp} (hs : slimOp P G o.op = some so) {id : Nat} {x : AV} {wr : List (Nat × Ob)}
    (hc : core id so (·.ev st.env) st.sto = some (x, wr)) : Ran P E F st A φ w (execOp a.eval o) x (applyWr st.sto wr) := by
  obtain ⟨dst, op, ty, pos, after, guard⟩ := o
  simp only at hs
  cases op with
  | move y =>
    simp only [slimOp, Option.map_eq_some_iff] at hs
    obtain ⟨sv, hy, rfl⟩ := hs
    simp only [core, Option.some.injEq, Prod.mk.injEq] at hc
    obtain ⟨rfl, rfl⟩ := hc
    have ev := ev_ok hG h r hy
    exact ⟨.value (a.eval y), _, w, A, φ, rfl, Or.inl rfl, Did.same h ev.1 ev.2⟩
  | assign y =>
    simp only [slimOp, Option.map_eq_some_iff] at hs
    obtain ⟨sv, hy, rfl⟩ := hs
    simp only [core, Option.some.injEq, Prod.mk.injEq] at hc
    obtain ⟨rfl, rfl⟩ := hc
    have ev := ev_ok hG h r hy
    exact ⟨.value (a.eval y), _, w, A, φ, rfl, Or.inl rfl, Did.same h ev.1 ev.2⟩
  | pick c p q =>
    simp only [slimOp] at hs
    split at hs
    · rename_i cs ps qs hcs hps hqs
      injection hs with hs; subst hs
      simp only [core] at hc
      split at hc
      · rename_i t hct
        simp only [Option.some.injEq, Prod.mk.injEq] at hc
        obtain ⟨rfl, rfl⟩ := hc
        have ec := (ev_ok hG h r hcs).1
        rw [hct] at ec
        have e1 := ev_ok hG h r hps
        have e2 := ev_ok hG h r hqs
        refine ⟨.value (if t then a.eval p else a.eval q), _, w, A, φ, ?_, Or.inl rfl, ?_⟩
        · simp only [execOp, (ca_v ec).1, asBool, Sem.run_bind, Sem.run_pure, Result.andThen_ok]
        · cases t with
          | true => exact Did.same h e1.1 e1.2
          | false => exact Did.same h e2.1 e2.2
      · simp at hc
    · simp at hs
  | alloc t =>
    simp only [slimOp, Option.map_eq_some_iff] at hs
    obtain ⟨z, hz, rfl⟩ := hs
    simp only [core] at hc
    split at hc
    · rename_i hn
      simp only [Option.some.injEq, Prod.mk.injEq] at hc
      obtain ⟨rfl, rfl⟩ := hc
      obtain ⟨zv, z1, z2, z3, z4⟩ := zero_ok hz
      refine ran_v (s := Instr.alloc t true (.tuple #[])) (w' := w.alloc (.cells zv.cells t)) ?_ (new_var h hn t (z2 A φ w) z3 (fun j hj => by rw [idsL_map_t] at hj; simp at hj))
      simp only [Instr.alloc, Sem.run_bind, z1, Result.andThen_ok, newVar, newRow, run_newObj, Sem.run_pure]
      rfl
    · simp at hc
  | box t y =>
    simp only [slimOp, Option.map_eq_some_iff] at hs
    obtain ⟨sv, hy, rfl⟩ := hs
    simp only [core] at hc
    split at hc
    · rename_i hn
      simp only [Option.some.injEq, Prod.mk.injEq] at hc
      obtain ⟨rfl, rfl⟩ := hc
      have ev := ev_ok hG h r hy
      have hcs := cells_ok hn.2 ev.1
      refine ran_v (s := Instr.box t (a.eval y)) (w' := w.alloc (.cells (a.eval y).cells t)) ?_ (new_var h hn.1 t hcs.1 hcs.2 (fun j hj => by rw [ids_cells] at hj; exact ev.2 j hj))
      simp only [Instr.box, Sem.run_bind, Result.andThen_ok, newVar, newRow, run_newObj, Sem.run_pure]
      rfl
    · simp at hc
  | build t ps =>
    obtain ⟨v, hr, hd⟩ := sim_build hG h r hs hc
    exact ran_v hr hd
  | buildSlice t len ps =>
    obtain ⟨v, w', φ', hr, hd⟩ := sim_bsl hG h r hs hc
    exact ran_v hr hd
  | load t y =>
    simp only [slimOp] at hs
    split at hs
    · rename_i d m sv hu hm hy
      injection hs with hs; subst hs
      have ev := ev_ok hG h r hy
      have hc' : core id (.load (isAggD d) m sv) (fun _ => sv.ev st.env) st.sto = some (x, wr) := by
        have := core_local (id := id) (o := .load (isAggD d) m sv) (ρ := (·.ev st.env)) (ρ' := fun _ => sv.ev st.env) (sto := st.sto) (sto' := st.sto) (fun y hy => by simp [SOp.svs] at hy; rw [hy]) (fun _ _ => rfl)
        rw [this.1]; exact hc
      obtain ⟨rfl, v, hr, h1, h2⟩ := sim_load h hu hm ev.1 hc'
      exact ran_v hr (Did.same h h1 h2)
    · simp at hs
  | store t y v =>
    simp only [slimOp] at hs
    split at hs
    · rename_i m ys vs hm hy hv
      injection hs with hs; subst hs
      obtain ⟨w', hr, hd⟩ := sim_store h hm (ev_ok hG h r hy).1 (ev_ok hG h r hv).1 (ev_ok hG h r hv).2 hc
      refine ⟨.skip, undef, w', A, φ, ?_, Or.inr ⟨rfl, rfl⟩, hd⟩
      show (Instr.storeAt t (a.eval y) (a.eval v) >>= fun _ => pure .skip : Sem Next).run P w = _
      rw [Sem.run_bind, hr]; rfl
    · simp at hs
  | nilCheck y =>
    simp only [slimOp, Option.map_eq_some_iff] at hs
    obtain ⟨sv, hy, rfl⟩ := hs
    have ev := ev_ok hG h r hy
    simp only [core] at hc
    have fin : ∀ {z : AV}, sv.ev st.env = z → some (z, ([] : List (Nat × Ob))) = some (x, wr) → (execOp a.eval ⟨dst, .nilCheck y, ty, pos, after, guard⟩).run P w = .ok (.value (a.eval y)) w →
        Ran P E F st A φ w (execOp a.eval ⟨dst, .nilCheck y, ty, pos, after, guard⟩) x (applyWr st.sto wr) := by
      intro z hz hx hrun
      simp only [Option.some.injEq, Prod.mk.injEq] at hx
      obtain ⟨rfl, rfl⟩ := hx
      rw [hz] at ev
      exact ⟨_, _, w, A, φ, hrun, Or.inl rfl, Did.same h ev.1 ev.2⟩
    split at hc
    · rename_i hz
      refine fin hz hc ?_
      have := ev.1; rw [hz] at this; simp only [CA] at this; simp only [execOp, this, Sem.run_pure]
    · rename_i hz
      refine fin hz hc ?_
      have := ev.1; rw [hz] at this; simp only [CA] at this; simp only [execOp, this, Sem.run_pure]
    · rename_i hz
      refine fin hz hc ?_
      have := ev.1; rw [hz] at this; simp only [CA] at this; obtain ⟨b, o, hv, _⟩ := this; simp only [execOp, hv, Sem.run_pure]
    · rename_i hz
      refine fin hz hc ?_
      have := ev.1; rw [hz] at this; simp only [CA] at this; obtain ⟨us, ys, hv, _⟩ := this; simp only [execOp, hv, Sem.run_pure]
    · simp at hc
  | binOp op t y z tz =>
    have done : ∀ {v : Value}, (do eqGuard op t y z (a.eval y) (a.eval z); binOp op t (a.eval y) (a.eval z) : Sem Value).run P w = .ok v w → v.oneCell' = true → (x, wr) = (AV.t (.v v), []) → Ran P E F st A φ w (execOp a.eval ⟨dst, .binOp op t y z tz, ty, pos, after, guard⟩) x (applyWr st.sto wr) := by
      intro v hr h1 he
      injection he with he1 he2; subst he1; subst he2
      exact ran_v hr (Did.same h (ca_mk h1) (by simp [AV.ids]))
    have bin : ∀ {ys zs : SV}, slimV G y = some ys → slimV G z = some zs → core id (.bin op ys zs) (·.ev st.env) st.sto = some (x, wr) → Ran P E F st A φ w (execOp a.eval ⟨dst, .binOp op t y z tz, ty, pos, after, guard⟩) x (applyWr st.sto wr) := by
      intro ys zs hy hz hc
      simp only [core, Option.map_eq_some_iff] at hc
      obtain ⟨v, hv, he⟩ := hc
      obtain ⟨r1, r2⟩ := run_bin (t := t) (x := y) (y := z) hv (ev_ok hG h r hy).1 (ev_ok hG h r hz).1
      exact done r1 r2 he.symm
    have beq : ∀ {neg : Bool} {ys zs : SV}, P.underlying t = some .bool → op = (if neg then .neq else .eql) → slimV G y = some ys → slimV G z = some zs → core id (.beq neg ys zs) (·.ev st.env) st.sto = some (x, wr) → Ran P E F st A φ w (execOp a.eval ⟨dst, .binOp op t y z tz, ty, pos, after, guard⟩) x (applyWr st.sto wr) := by
      intro neg ys zs hu hop hy hz hc
      simp only [core] at hc
      split at hc
      · rename_i p q hp hq
        have e1 := (ev_ok hG h r hy).1; rw [hp] at e1
        have e2 := (ev_ok hG h r hz).1; rw [hq] at e2
        refine done (v := .bool (if neg then !(p == q) else p == q)) ?_ rfl (by injection hc with hc; exact hc.symm)
        rw [(ca_v e1).1, (ca_v e2).1, hop]
        exact run_beq hu
      · simp at hc
    have eqf : ∀ {neg : Bool} {ks : List EK} {ys zs : SV}, (P.underlying t).any isAggD = true → P.eqGuardType P.depth t = false → flat P 20 t = some ks → op = (if neg then .neq else .eql) → slimV G y = some ys → slimV G z = some zs → core id (.eqf neg ks ys zs) (·.ev st.env) st.sto = some (x, wr) → Ran P E F st A φ w (execOp a.eval ⟨dst, .binOp op t y z tz, ty, pos, after, guard⟩) x (applyWr st.sto wr) := by
      intro neg ks ys zs hu hgt hf hop hy hz hc
      simp only [core] at hc
      split at hc
      · rename_i p q hp hq
        simp only [Option.map_eq_some_iff] at hc
        obtain ⟨b, hb, he⟩ := hc
        have e1 := (ev_ok hG h r hy).1; rw [hp] at e1
        have e2 := (ev_ok hG h r hz).1; rw [hq] at e2
        have := run_eqf (op := op) (t := t) (x := y) (y := z) (by rw [hop]; cases neg <;> simp) hu hgt hf e1 e2 hb
        refine done this rfl ?_
        rw [← he]
        subst hop
        cases neg <;> simp
      · simp at hc
    simp only [slimOp] at hs
    split at hs
    · rename_i k ys zs hu hy hz
      injection hs with hs; subst hs; exact bin hy hz hc
    · rename_i ys zs hu hy hz
      injection hs with hs; subst hs; exact bin hy hz hc
    · rename_i k ys zs hu hy hz
      injection hs with hs; subst hs; exact bin hy hz hc
    · rename_i ms ys hu hy hz
      have ifnil : ∀ {neg : Bool}, op = (if neg then .neq else .eql) → core id (.ifnil neg ys) (·.ev st.env) st.sto = some (x, wr) → Ran P E F st A φ w (execOp a.eval ⟨dst, .binOp op t y z tz, ty, pos, after, guard⟩) x (applyWr st.sto wr) := by
        intro neg hop hc
        simp only [core] at hc
        split at hc
        · rename_i b hv
          have e1 := (ev_ok hG h r hy).1; rw [hv] at e1
          have e2 := (ev_ok hG h r hz).1
          injection hc with hc
          refine done (v := .bool (b == neg)) ?_ rfl hc.symm
          rw [(ca_v e2).1, hop]
          obtain ⟨c, rfl⟩ : ∃ c, z = .const c := by
            cases z with
            | const c => exact ⟨c, rfl⟩
            | tmp k => simp [slimV] at hz
            | func f => simp [slimV] at hz
            | global g => simp [slimV] at hz
          exact run_ifnil hu e1
        · simp at hc
      split at hs
      · injection hs with hs; subst hs; exact ifnil rfl hc
      · injection hs with hs; subst hs; exact ifnil rfl hc
      · simp at hs
    · rename_i e ys hu hy hz
      have isnil : ∀ {neg : Bool}, op = (if neg then .neq else .eql) → core id (.isnil neg ys) (·.ev st.env) st.sto = some (x, wr) → Ran P E F st A φ w (execOp a.eval ⟨dst, .binOp op t y z tz, ty, pos, after, guard⟩) x (applyWr st.sto wr) := by
        intro neg hop hc
        obtain ⟨q, m, cp, hv, he⟩ := isnil_ok (ev_ok hG h r hy).1 hc
        have e2 := (ev_ok hG h r hz).1
        refine done ?_ rfl he
        rw [hv, (ca_v e2).1, hop]
        exact run_isnil hu
      split at hs
      · injection hs with hs; subst hs; exact isnil rfl hc
      · injection hs with hs; subst hs; exact isnil rfl hc
      · simp at hs
    · rename_i ys zs hu hy hz
      split at hs
      · injection hs with hs; subst hs; exact beq hu rfl hy hz hc
      · injection hs with hs; subst hs; exact beq hu rfl hy hz hc
      · simp at hs
    · rename_i fs ys zs hu hy hz
      split at hs
      · rename_i hgt
        split at hs
        · rename_i ks hf
          injection hs with hs; subst hs; exact eqf (by rw [hu]; rfl) hgt hf rfl hy hz hc
        · rename_i ks hf
          injection hs with hs; subst hs; exact eqf (by rw [hu]; rfl) hgt hf rfl hy hz hc
        · simp at hs
      · simp at hs
    · rename_i l e ys zs hu hy hz
      split at hs
      · rename_i hgt
        split at hs
        · rename_i ks hf
          injection hs with hs; subst hs; exact eqf (by rw [hu]; rfl) hgt hf rfl hy hz hc
        · rename_i ks hf
          injection hs with hs; subst hs; exact eqf (by rw [hu]; rfl) hgt hf rfl hy hz hc
        · simp at hs
      · simp at hs
    · simp at hs
  | unOp op t y =>
    simp only [slimOp, Option.map_eq_some_iff] at hs
    obtain ⟨sv, hy, rfl⟩ := hs
    simp only [core, Option.map_eq_some_iff] at hc
    obtain ⟨v, hv, he⟩ := hc
    injection he with he1 he2; subst he1; subst he2
    obtain ⟨r1, r2⟩ := run_un (P := P) hv (ev_ok hG h r hy).1
    exact ran_v r1 (Did.same h (ca_mk r2) (by simp [AV.ids]))
  | convert s d y =>
    simp only [slimOp] at hs
    split at hs
    · rename_i k0 k sv hu hu2 hy
      injection hs with hs; subst hs
      simp only [core] at hc
      split at hc
      · rename_i k1 m hv
        simp only [Option.some.injEq, Prod.mk.injEq] at hc
        obtain ⟨rfl, rfl⟩ := hc
        have e1 := (ev_ok hG h r hy).1; rw [hv] at e1
        refine ran_v (s := convert s d (a.eval y)) (v := .int k (k.wrap m)) (w' := w) ?_ (Did.same h (ca_mk rfl) (by simp [AV.ids]))
        rw [(ca_v e1).1]
        simp [convert, run_underlying hu, run_underlying hu2, Conv.intToInt]
      · simp at hc
    · rename_i k0 k sv hu hu2 hy
      injection hs with hs; subst hs
      simp only [core] at hc
      split at hc
      · rename_i k1 m hv
        simp only [Option.some.injEq, Prod.mk.injEq] at hc
        obtain ⟨rfl, rfl⟩ := hc
        have e1 := (ev_ok hG h r hy).1; rw [hv] at e1
        refine ran_v (s := convert s d (a.eval y)) (v := .float k (k.nearest m)) (w' := w) ?_ (Did.same h (ca_mk rfl) (by simp [AV.ids]))
        rw [(ca_v e1).1]
        simp [convert, run_underlying hu, run_underlying hu2, Conv.intToFloat]
      · simp at hc
    · simp at hs
  | fieldAddr t y i =>
    simp only [slimOp] at hs
    split at hs
    · rename_i fs hu
      split at hs
      · rename_i f sv hf hy
        split at hs
        · rename_i m hm
          split at hs
          · rename_i h0
            injection hs with hs; subst hs
            have ev := ev_ok hG h r hy
            simp only [core] at hc
            split at hc
            case h_2 => simp at hc
            rename_i x' hx1
            simp only [Option.some.injEq, Prod.mk.injEq] at hc
            obtain ⟨rfl, rfl⟩ := hc
            obtain ⟨b, hb, hca, hid⟩ := ca_add ev.1 hx1
            refine ran_v (s := Instr.fieldAt t (a.eval y) i) (v := .pointer (some (b.add f.offset))) (w' := w) ?_ (Did.same h hca (fun j hj => ev.2 j (by rw [← hid]; exact hj)))
            rw [hb]; exact run_fieldAt hu hf hm h0 b
          · simp at hs
        · simp at hs
      · simp at hs
    · simp at hs
  | field t y i =>
    simp only [slimOp] at hs
    split at hs
    · rename_i fs hu
      split at hs
      · rename_i f sv hf hy
        split at hs
        · rename_i m d hm hd
          injection hs with hs; subst hs
          have ev := ev_ok hG h r hy
          simp only [core] at hc
          split at hc
          · rename_i cs hv
            simp only [Option.map_eq_some_iff] at hc
            obtain ⟨v, hv2, he⟩ := hc
            injection he with he1 he2; subst he1; subst he2
            have e1 := ev.1; rw [hv] at e1
            simp only [CA] at e1
            obtain ⟨ys, hys, hcs⟩ := e1
            obtain ⟨u, hr, hca, hid⟩ := run_partA hd hm hcs hv2
            refine ran_v (s := Instr.field t (a.eval y) i) (v := u) (w' := w) ?_ (Did.same h hca (fun j hj => ev.2 j (by rw [hv]; simp only [AV.ids]; exact hid j hj)))
            rw [hys]
            simp only [Instr.field, Sem.run_bind, run_underlying hu, Result.andThen_ok, hf, asAgg, Sem.run_pure, hr]
          · simp at hc
        · simp at hs
      · simp at hs
    · simp at hs
  | indexAddr t y i =>
    simp only [slimOp] at hs
    split at hs
    · rename_i len e ys is hu hy hi
      simp only [Option.map_eq_some_iff] at hs
      obtain ⟨m, hm, rfl⟩ := hs
      have ev := ev_ok hG h r hy
      simp only [core] at hc
      split at hc
      · rename_i k q hq
        have ei := (ev_ok hG h r hi).1; rw [hq] at ei
        split at hc
        · rename_i h0
          split at hc
          · rename_i h1
            split at hc
            case h_2 => simp at hc
            rename_i x' hx1
            simp only [Option.some.injEq, Prod.mk.injEq] at hc
            obtain ⟨rfl, rfl⟩ := hc
            obtain ⟨b, hb, hca, hid⟩ := ca_add ev.1 hx1
            refine ran_v (s := Instr.indexAt t (a.eval y) (a.eval i)) (v := .pointer (some (b.add (q.toNat * m)))) (w' := w) ?_ (Did.same h hca (fun j hj => ev.2 j (by rw [← hid]; exact hj)))
            rw [hb, (ca_v ei).1]; exact run_indexAt_arr hu hm b h0 h1
          · simp at hc
        · simp at hc
      · simp at hc
    · rename_i e ys is hu hy hi
      simp only [Option.map_eq_some_iff] at hs
      obtain ⟨m, hm, rfl⟩ := hs
      have ev := ev_ok hG h r hy
      simp only [core] at hc
      split at hc
      · rename_i k q hq
        have ei := (ev_ok hG h r hi).1; rw [hq] at ei
        split at hc
        · rename_i h0
          split at hc
          · rename_i j s off l rr hv
            split at hc
            · rename_i h1
              obtain ⟨h1, rfl⟩ := h1
              simp only [Option.some.injEq, Prod.mk.injEq] at hc
              obtain ⟨rfl, rfl⟩ := hc
              have e1 := ev.1; rw [hv] at e1
              simp only [CA] at e1
              obtain ⟨ba, cap, hvv, hle, hrf, hroom⟩ := e1
              rcases hroom with hroom | ⟨hba, hrc⟩
              · omega
              refine ran_v (s := Instr.indexAt t (a.eval y) (a.eval i)) (w' := w) (by rw [hvv, hba, (ca_v ei).1]; exact run_indexAt_sl hu hm _ h0 h1) (Did.same h ?_ (fun j' hj' => ev.2 j' (by rw [hv]; simpa [AV.ids] using hj')))
              simp only [CA, addr_add, Nat.add_mul, Nat.add_zero]
            · simp at hc
          · rename_i s es hv
            split at hc
            · rename_i hss; subst hss
              split at hc
              · rename_i ee hee
                simp only [Option.some.injEq, Prod.mk.injEq] at hc
                obtain ⟨rfl, rfl⟩ := hc
                have e1 := ev.1; rw [hv] at e1
                simp only [CA, CT] at e1
                obtain ⟨ba, cap, hvv, hle, hroom⟩ := e1
                have hlt := (List.getElem?_eq_some_iff.1 hee).1
                rcases hroom with hroom | ⟨b, o, hba, hA, hrows⟩
                · subst hroom; simp at hlt
                refine ran_v (s := Instr.indexAt t (a.eval y) (a.eval i)) (w' := w) (by rw [hvv, hba, (ca_v ei).1]; exact run_indexAt_sl hu hm _ h0 (by omega)) (Did.same h ?_ (by simp [AV.ids]))
                simp only [CA, addr_add]
                exact ⟨b, o + q.toNat * s, rfl, hA, (hrows.get hee).2⟩
              · simp at hc
            · simp at hc
          · simp at hc
        · simp at hc
      · simp at hc
    · simp at hs
  | index t y i =>
    simp only [slimOp] at hs
    split at hs
    · rename_i len e ys is hu hy hi
      split at hs
      · rename_i m d hm hd
        injection hs with hs; subst hs
        have ev := ev_ok hG h r hy
        simp only [core] at hc
        split at hc
        · rename_i k q hq
          have ei := (ev_ok hG h r hi).1; rw [hq] at ei
          split at hc
          · rename_i h0
            split at hc
            · rename_i l' s' g' cs he hv
              injection he with he; injection he with he1 he2; injection he2 with he2 he3
              subst he1; subst he2; subst he3
              split at hc
              · rename_i h1
                simp only [Option.map_eq_some_iff] at hc
                obtain ⟨v, hv2, he⟩ := hc
                injection he with he1 he2; subst he1; subst he2
                have e1 := ev.1; rw [hv] at e1
                simp only [CA] at e1
                obtain ⟨us, hys, hcs⟩ := e1
                obtain ⟨u, hr, hca, hid⟩ := run_partA hd hm hcs hv2
                refine ran_v (s := Instr.index t (a.eval y) (a.eval i)) (v := u) (w' := w) ?_ (Did.same h hca (fun j hj => ev.2 j (by rw [hv]; simp only [AV.ids]; exact hid j hj)))
                rw [hys, (ca_v ei).1, run_index_arr hu hm us h0 h1, hr]
              · simp at hc
            · rename_i he _; simp at he
            · simp at hc
          · simp at hc
        · simp at hc
      · simp at hs
    · rename_i ys is hu hy hi
      injection hs with hs; subst hs
      have ev := ev_ok hG h r hy
      simp only [core] at hc
      split at hc
      · rename_i k q hq
        have ei := (ev_ok hG h r hi).1; rw [hq] at ei
        split at hc
        · rename_i h0
          split at hc
          · rename_i he _; simp at he
          · rename_i s _ hv
            split at hc
            · rename_i b hb
              simp only [Option.some.injEq, Prod.mk.injEq] at hc
              obtain ⟨rfl, rfl⟩ := hc
              have e1 := ev.1; rw [hv] at e1
              refine ran_v (s := Instr.index t (a.eval y) (a.eval i)) (w' := w) (by rw [(ca_v e1).1, (ca_v ei).1]; exact run_index_str hu s h0 hb) (Did.same h (ca_mk rfl) (by simp [AV.ids]))
            · simp at hc
          · simp at hc
        · simp at hc
      · simp at hc
    · simp at hs
  | extract y i =>
    simp only [slimOp, Option.map_eq_some_iff] at hs
    obtain ⟨sv, hy, rfl⟩ := hs
    have ev := ev_ok hG h r hy
    simp only [core] at hc
    split at hc
    · rename_i vs hv
      split at hc
      · rename_i u hu
        simp only [Option.some.injEq, Prod.mk.injEq] at hc
        obtain ⟨rfl, rfl⟩ := hc
        have e1 := ev.1; rw [hv] at e1
        simp only [CA] at e1
        obtain ⟨ys, hys, hcs⟩ := e1
        obtain ⟨z, hz, hca⟩ := hcs.get hu
        refine ran_v (s := Instr.extract (a.eval y) i) (v := z) (w' := w) ?_ (Did.same h hca (fun j hj => ev.2 j (by rw [hv]; simp only [AV.ids]; exact idsL_mem.2 ⟨u, List.mem_of_getElem? hu, hj⟩)))
        rw [hys]
        simp only [Array.getElem?_toList] at hz
        simp [Instr.extract, hz]
      · simp at hc
    · simp at hc
  | makeFunc fn first caps =>
    cases fn with
    | func f =>
      simp only [slimOp] at hs
      split at hs
      · rename_i fs cs hfs hcs
        injection hs with hs; subst hs
        simp only [core, Option.some.injEq, Prod.mk.injEq] at hc
        obtain ⟨rfl, rfl⟩ := hc
        have e1 := evs_ok hG h r hfs
        have e2 := evs_ok hG h r hcs
        refine ran_v (s := Instr.makeFunc (.func f) (first.map a.eval) (caps.map a.eval)) (w' := w) rfl (Did.same h ?_ (fun j hj => ?_))
        · simp only [CA]; exact ⟨_, _, rfl, by simpa using e1.1, by simpa using e2.1⟩
        · simp only [AV.ids, List.mem_append] at hj
          exact hj.elim (e1.2 j) (e2.2 j)
      · simp at hs
    | _ => simp [slimOp] at hs
  | makeSlice t l c =>
    obtain ⟨v, w', φ', hr, hd⟩ := sim_mksl hG h r hs hc
    exact ran_v hr hd
  | slice t y lo hi mx =>
    cases mx with
    | none =>
      obtain ⟨v, hr, hd⟩ := sim_sli hG h r hs hc
      exact ran_v hr hd
    | some m => simp [slimOp] at hs
  | call c =>
    obtain ⟨callee, args, ts⟩ := c
    cases callee with
    | builtin b =>
      have hres : ∀ {bb : Builtin}, b = bb → (execOp a.eval ⟨dst, .call ⟨.builtin b, args, ts⟩, ty, pos, after, guard⟩).run P w = (builtin bb ts ty (args.map fun | .const _ => true | _ => false) (args.map a.eval)).run P w := by
        intro bb hb; subst hb; rfl
      cases b with
      | len =>
        have hs' := hs
        simp only [slimOp] at hs
        split at hs
        · rename_i t y ht hy0
          have hrun : ∀ {str : Bool} {ys : SV}, slimV G y = some ys → (if str then P.underlying t = some .string else ∃ e, P.underlying t = some (.slice e)) → core id (.len str ys) (·.ev st.env) st.sto = some (x, wr) → Ran P E F st A φ w (execOp a.eval ⟨dst, .call ⟨.builtin .len, args, ts⟩, ty, pos, after, guard⟩) x (applyWr st.sto wr) := by
            intro str ys hy hu hc
            simp only [core] at hc
            split at hc
            · rename_i hstr
              simp only [Option.map_eq_some_iff] at hc
              obtain ⟨m, hm, he⟩ := hc
              injection he with he1 he2; subst he1; subst he2
              have hl := run_len (P := P) (ty := ty) hu hm hstr (ev_ok hG h r hy).1 ts (args.map a.eval) ht (by simp [hy0])
              refine ⟨.value (.int .i64 m), .int .i64 m, w, A, φ, ?_, Or.inl rfl, Did.same h (ca_mk rfl) (by simp [AV.ids])⟩
              rw [hres rfl]
              simp only [builtin, Sem.run_bind, hl, Result.andThen_ok, Sem.run_pure]
            · simp at hc
          split at hs
          · rename_i hu
            simp only [Option.map_eq_some_iff] at hs
            obtain ⟨ys, hy, rfl⟩ := hs
            exact hrun hy (by simpa using hu) hc
          · rename_i e hu
            simp only [Option.map_eq_some_iff] at hs
            obtain ⟨ys, hy, rfl⟩ := hs
            exact hrun hy (by simp [hu]) hc
          · simp at hs
        · simp at hs
      | append =>
        obtain ⟨v, w', φ', hr, hd⟩ := sim_app (ty := ty) hG h r hs hc
        refine ⟨.value v, v, w', A, φ', ?_, Or.inl rfl, hd⟩
        rw [hres rfl]
        simp only [builtin, Sem.run_bind, hr, Result.andThen_ok, Sem.run_pure]
      | copy =>
        obtain ⟨v, w', hr, hd⟩ := sim_cpy (ty := ty) hG h r hs hc
        refine ⟨.value v, v, w', A, φ, ?_, Or.inl rfl, hd⟩
        rw [hres rfl]
        simp only [builtin, Sem.run_bind, hr, Result.andThen_ok, Sem.run_pure]
      | clear =>
        obtain ⟨v, w', hr, hd⟩ := sim_clr (ty := ty) hG h r hs hc
        refine ⟨.value v, v, w', A, φ, ?_, Or.inl rfl, hd⟩
        rw [hres rfl]
        simp only [builtin, Sem.run_bind, hr, Result.andThen_ok, Sem.run_pure]
      | max =>
        simp only [slimOp, Option.map_eq_some_iff] at hs
        obtain ⟨ss, hss, rfl⟩ := hs
        simp only [core] at hc
        split at hc
        · rename_i k p k' q hpq
          split at hc
          · rename_i hk; subst hk
            simp only [if_true, Option.some.injEq, Prod.mk.injEq] at hc
            obtain ⟨rfl, rfl⟩ := hc
            have ev := (evs_ok hG h r hss).1
            rw [hpq] at ev
            simp only [CAs] at ev
            obtain ⟨z, zs, hz, h1, z2, zs2, rfl, h2, rfl⟩ := ev
            rw [(ca_v h1).1, (ca_v h2).1] at hz
            have harr : args.map a.eval = #[.int k p, .int k q] := by
              apply Array.ext'; simpa using hz
            refine ⟨.value (.int k (max p q)), _, w, A, φ, ?_, Or.inl rfl, Did.same h (ca_mk rfl) (by simp [AV.ids])⟩
            rw [hres rfl, harr]
            have hm : (if q > p then q else p) = max p q := by simp only [Int.max_def]; split <;> split <;> omega
            simp [builtin, Builtin.max_, Builtin.max2, hm]
          · simp at hc
        · simp at hc
      | min =>
        simp only [slimOp, Option.map_eq_some_iff] at hs
        obtain ⟨ss, hss, rfl⟩ := hs
        simp only [core] at hc
        split at hc
        · rename_i k p k' q hpq
          split at hc
          · rename_i hk; subst hk
            simp only [Bool.false_eq_true, if_false, Option.some.injEq, Prod.mk.injEq] at hc
            obtain ⟨rfl, rfl⟩ := hc
            have ev := (evs_ok hG h r hss).1
            rw [hpq] at ev
            simp only [CAs] at ev
            obtain ⟨z, zs, hz, h1, z2, zs2, rfl, h2, rfl⟩ := ev
            rw [(ca_v h1).1, (ca_v h2).1] at hz
            have harr : args.map a.eval = #[.int k p, .int k q] := by
              apply Array.ext'; simpa using hz
            refine ⟨.value (.int k (min p q)), _, w, A, φ, ?_, Or.inl rfl, Did.same h (ca_mk rfl) (by simp [AV.ids])⟩
            rw [hres rfl, harr]
            have hm : (if q < p then q else p) = min p q := by simp only [Int.min_def]; split <;> split <;> omega
            simp [builtin, Builtin.min_, Builtin.min2, hm]
          · simp at hc
        · simp at hc
      | _ => simp [slimOp] at hs
    | value f => simp [slimOp] at hs
    | invoke f m => simp [slimOp] at hs
  | _ => simp [slimOp] at hs

end
end Go.Sx

namespace Go.Sx

def stoOf : List (Nat × Ob) → Nat → Option Ob
  | [], _ => none
  | (i, o) :: l, k => if k = i then some o else stoOf l k

def keysOf (l : List (Nat × Ob)) : List Nat := l.map (·.1)

theorem stoOf_mem {l : List (Nat × Ob)} {k : Nat} {o : Ob} (h : stoOf l k = some o) : (k, o) ∈ l := by
  induction l with
  | nil => simp [stoOf] at h
  | cons p l ih =>
    obtain ⟨i, q⟩ := p
    simp only [stoOf] at h
    split at h
    · rename_i e; injection h with h; subst e; subst h; simp
    · simp [ih h]

theorem stoOf_some {l : List (Nat × Ob)} {k : Nat} : (stoOf l k).isSome = true ↔ k ∈ keysOf l := by
  induction l with
  | nil => simp [stoOf, keysOf]
  | cons p l ih =>
    obtain ⟨i, q⟩ := p
    simp only [stoOf, keysOf, List.map_cons, List.mem_cons]
    split
    · rename_i e; simp [e]
    · rename_i e; simp only [e, false_or]; exact ih

/-- The objects that a call holds: each in a block of its own. -/
structure Holds (A : Nat → Prop) (φ : Nat → Nat) (w : World) (l : List (Nat × Ob)) : Prop where
  obj : ∀ id o, stoOf l id = some o → CO A φ w (φ id) o
  own : ∀ id o, stoOf l id = some o → ¬ A (φ id) ∧ φ id < w.heap.size
  inj : ∀ i j, i ∈ keysOf l → j ∈ keysOf l → i ≠ j → φ i ≠ φ j

/-- The ids that are met are held. -/
structure Shut (xs : List AV) (l : List (Nat × Ob)) : Prop where
  vals : ∀ i ∈ idsL xs, i ∈ keysOf l
  objs : ∀ id o, stoOf l id = some o → ∀ i ∈ o.ids, i ∈ keysOf l
  live : ∀ id o, stoOf l id = some o → o.live = true

/-- How a call has ended. -/
structure Fin (E : Env) (A : Nat → Prop) (φ : Nat → Nat) (w : World) (ins : List (Nat × Ob)) (r : AV) (outs : List (Nat × Ob)) (v : Value) (w' : World) (A' : Nat → Prop) (φ' : Nat → Nat) : Prop where
  go : Goes A A' w w'
  agree : ∀ id ∈ keysOf ins, φ' id = φ id
  holds : Holds A' φ' w' outs
  fresh : ∀ id ∈ keysOf outs, id ∈ keysOf ins ∨ w.heap.size ≤ φ' id
  ca : CA A' φ' w' r v
  anew : ∀ b, A' b → A b ∨ w.heap.size ≤ b
  alt : ∀ b, A' b → b < w'.heap.size
  old : ∀ b, b < w.heap.size → (∀ id ∈ keysOf ins, φ id ≠ b) → w'.heap[b]? = w.heap[b]?
  os : w'.os = w.os
  tape : w'.tape = w.tape
  output : w'.output = w.output
  drawn : E.cnt → w.drawn ≤ w'.drawn
  size : w.heap.size ≤ w'.heap.size

/-- A call of f, whether it has a body or not. -/
def FRuns (P : Program) (f : FuncId) (vals : Array Value) (w : World) (R : Value → World → Prop) : Prop :=
  ((callFunc f vals).run P w = .ok (.enter f vals) w ∧ Calls P f vals w fun e w' => ∃ v, e = .returned v ∧ R v w') ∨
  (∃ v w', (callFunc f vals).run P w = .ok (.value v) w' ∧ R v w')

/-- Called with 'args', holding 'ins', f answers r and leaves 'outs'. -/
structure Meets (P : Program) (E : Env) (f : FuncId) (args : List AV) (ins : List (Nat × Ob)) (r : AV) (outs : List (Nat × Ob)) : Prop where
  shutIn : Shut args ins
  shutOut : Shut [r] outs
  stay : ∀ i ∈ keysOf ins, i ∈ keysOf outs
  runs : ∀ (A : Nat → Prop) (φ : Nat → Nat) (w : World) (vals : Array Value), E.gi w → (∀ b, E.gb b → A b) → (∀ b, A b → b < w.heap.size) → Holds A φ w ins → CAs A φ w args vals.toList →
    FRuns P f vals w fun v w' => ∃ A' φ', Fin E A φ w ins r outs v w' A' φ'

/-- A row that is one's own, and has memory. -/
@[simp] def isRow : Option Ob → Bool
  | some (.row _ r _) => r
  | some (.rowA _ _) => true
  | _ => false

theorem isRow_live {x : Option Ob} (h : isRow x = true) : ∃ o, x = some o ∧ o.live = true := by
  unfold isRow at h
  split at h
  · exact ⟨_, rfl, h⟩
  · exact ⟨_, rfl, rfl⟩
  · cases h

/-- A cell of a row as a tree: what is one's own is shown. -/
def cellT (sto : Nat → Option Ob) (sn : List Nat) : AV → Option T
  | .t x => some x
  | .own id sz off len _ => if len = 0 then some (.sl sz []) else if id ∈ sn then (rowPart sz off len (sto id)).map (.sl sz) else none
  | _ => none

def cellsT (sto : Nat → Option Ob) (sn : List Nat) : List AV → Option (List T)
  | [] => some []
  | x :: xs => match cellT sto sn x, cellsT sto sn xs with
    | some a, some b => some (a :: b)
    | _, _ => none

def rowsT (sto : Nat → Option Ob) (sn : List Nat) : List (List AV) → Option (List (List T))
  | [] => some []
  | x :: xs => match cellsT sto sn x, rowsT sto sn xs with
    | some a, some b => some (a :: b)
    | _, _ => none

/-- A row whose cells may be one's own, as trees. -/
def shA (sto : Nat → Option Ob) (sn : List Nat) (sz len : Nat) : Option Ob → Option (List (List T))
  | some (.rowA s es) => if s = sz ∧ len = es.length then rowsT sto sn es else none
  | _ => none

/-- A caller's value as a callee is told it: rows of one's own as trees. 'sn': the rows that are shown so. -/
def Wk (sto : Nat → Option Ob) (sn : List Nat) : AV → AV → Prop
  | .own id sz off len r, .t (.sl sz' es) => sz = sz' ∧ ((slTrees sz sto (.own id sz off len r) = some es ∧ (id ∈ sn ∨ ∃ s es, sto id = some (.fro s es) ∨ sto id = some (.row s false es))) ∨ (id ∈ sn ∧ off = 0 ∧ shA sto sn sz len (sto id) = some es))
  | .t (.v (.slice none 0 0)), .t (.sl _ es) => es = []
  | x, y => x = y

/-- The same, within structs. -/
inductive Wks (sto : Nat → Option Ob) (sn : List Nat) : List AV → List AV → Prop
  | nil : Wks sto sn [] []
  | one {x y : AV} {xs ys : List AV} : Wk sto sn x y → Wks sto sn xs ys → Wks sto sn (x :: xs) (y :: ys)
  | ag {cs ds xs ys : List AV} : Wks sto sn cs ds → Wks sto sn xs ys → Wks sto sn (.ag cs :: xs) (.ag ds :: ys)

mutual
/-- No slice that is a tree, no pointer at one. -/
def AV.plain : AV → Bool
  | .t (.v _) => true
  | .t (.sl _ _) => false
  | .ag cs => plainL cs
  | .tp cs => plainL cs
  | .ipt _ => false
  | .fn _ a b => plainL a && plainL b
  | _ => true
def plainL : List AV → Bool
  | [] => true
  | x :: xs => x.plain && plainL xs
end

def T.plain : T → Bool
  | .v _ => true
  | .sl _ _ => false

def Ob.plain : Ob → Prop
  | .box cs => plainL cs = true
  | .row _ _ es => ∀ e ∈ es, ∀ c ∈ e, c.plain = true
  | _ => False

section
variable {P : Program} {E : Env} {F : Frm} {sto : Nat → Option Ob} {w : World} {A A' : Nat → Prop} {φ φ' : Nat → Nat}

mutual
theorem CA.plain : ∀ {x : AV} {v : Value}, x.plain = true → (∀ i ∈ x.ids, φ' i = φ i) → CA A φ w x v → CA A' φ' w x v
  | .t (.v _), _, _, _, h => by simpa only [CA, CT] using h
  | .t (.sl _ _), _, h, _, _ => by simp [AV.plain] at h
  | .ag cs, v, h, hi, hx => by
    simp only [CA] at hx ⊢; obtain ⟨ys, rfl, hx⟩ := hx
    exact ⟨ys, rfl, CAs.plain (by simpa only [AV.plain] using h) (by simpa only [AV.ids] using hi) hx⟩
  | .tp cs, v, h, hi, hx => by
    simp only [CA] at hx ⊢; obtain ⟨ys, rfl, hx⟩ := hx
    exact ⟨ys, rfl, CAs.plain (by simpa only [AV.plain] using h) (by simpa only [AV.ids] using hi) hx⟩
  | .ptr i o, v, _, hi, hx => by simp only [CA] at hx ⊢; rw [hi i (by simp [AV.ids])]; exact hx
  | .ept i s j o, v, _, hi, hx => by simp only [CA] at hx ⊢; rw [hi i (by simp [AV.ids])]; exact hx
  | .ipt _, _, h, _, _ => by simp [AV.plain] at h
  | .own i s o l r, v, _, hi, hx => by simp only [CA] at hx ⊢; rw [hi i (by simp [AV.ids])]; exact hx
  | .fn f a b, v, h, hi, hx => by
    simp only [CA] at hx ⊢; obtain ⟨us, ys, rfl, h1, h2⟩ := hx
    simp only [AV.plain, Bool.and_eq_true] at h
    exact ⟨us, ys, rfl, CAs.plain h.1 (fun i hm => hi i (by simp [AV.ids, hm])) h1, CAs.plain h.2 (fun i hm => hi i (by simp [AV.ids, hm])) h2⟩
  | .ifc _, _, _, _, hx => by simpa only [CA] using hx
  | .undef, _, _, _, _ => by simp only [CA]
theorem CAs.plain : ∀ {xs : List AV} {vs : List Value}, plainL xs = true → (∀ i ∈ idsL xs, φ' i = φ i) → CAs A φ w xs vs → CAs A' φ' w xs vs
  | [], _, _, _, h => by simpa only [CAs] using h
  | x :: xs, vs, h, hi, hx => by
    simp only [CAs] at hx ⊢
    simp only [plainL, Bool.and_eq_true] at h
    obtain ⟨z, zs, rfl, h1, h2⟩ := hx
    exact ⟨z, zs, rfl, CA.plain h.1 (fun i hm => hi i (by simp [idsL, hm])) h1, CAs.plain h.2 (fun i hm => hi i (by simp [idsL, hm])) h2⟩
end

theorem CCells.plain {b : Nat} : ∀ {cs : List T} {o : Nat}, (∀ c ∈ cs, c.plain = true) → CCells A w b o cs → CCells A' w b o cs
  | [], _, _, _ => by simp only [CCells]
  | c :: cs, o, hp, h => by
    simp only [CCells] at h ⊢
    obtain ⟨⟨y, hy, hc⟩, hr⟩ := h
    refine ⟨⟨y, hy, ?_⟩, CCells.plain (fun d hd => hp d (by simp [hd])) hr⟩
    have := hp c (by simp)
    cases c with
    | v x => simpa only [CT] using hc
    | sl s es => simp [T.plain] at this

theorem CRows.plain {sz b : Nat} : ∀ {es : List (List T)} {o : Nat}, (∀ e ∈ es, ∀ c ∈ e, c.plain = true) → CRows A w sz b o es → CRows A' w sz b o es
  | [], _, _, _ => by simp only [CRows]
  | e :: es, o, hp, h => by
    simp only [CRows] at h ⊢
    exact ⟨⟨h.1.1, CCells.plain (hp e (by simp)) h.1.2⟩, CRows.plain (fun d hd => hp d (by simp [hd])) h.2⟩

theorem CO.plain {b : Nat} {o : Ob} (hp : o.plain) (hi : ∀ i ∈ o.ids, φ' i = φ i) (h : CO A φ w b o) : CO A' φ' w b o := by
  cases o with
  | box cs =>
    simp only [CO] at h ⊢
    obtain ⟨ys, e, h1, h2, h3⟩ := h
    exact ⟨ys, e, h1, CAs.plain hp (by simpa only [Ob.ids] using hi) h2, h3⟩
  | row s r es =>
    simp only [CO] at h ⊢
    exact ⟨h.1, fun hr => ⟨(h.2 hr).1, CRows.plain hp (h.2 hr).2⟩⟩
  | fro s es => simp [Ob.plain] at hp
  | rowA s es => simp [Ob.plain] at hp
  | dead => simp [Ob.plain] at hp

/-- Blocks that a callee may look at: the rows that are shown join those that are never written. -/
def shown (A : Nat → Prop) (φ : Nat → Nat) (sn : List Nat) : Nat → Prop := fun b => A b ∨ ∃ i ∈ sn, b = φ i

theorem goes_shown (sn : List Nat) : Goes A (shown A φ sn) w w := ⟨fun _ h => ⟨Or.inl h, rfl⟩, fun _ _ h => h⟩

theorem own_ok (h : RS E F sto w A φ) {sn : List Nat} {id sz off len : Nat} {r : Bool} {es : List (List T)} {v : Value} (hs : slTrees sz sto (.own id sz off len r) = some es) (hid : id ∈ sn ∨ ∃ s es, sto id = some (.fro s es) ∨ sto id = some (.row s false es)) (hx : CA A φ w (.own id sz off len r) v) :
    CT (shown A φ sn) w (.sl sz es) v := by
    simp only [CA] at hx
    obtain ⟨a, cap, rfl, hle, hrf, hroom⟩ := hx
    simp only [slTrees, AV.asOwn, if_true] at hs
    unfold rowPart at hs
    simp only [CT]
    split at hs
    · rename_i s' real es' hob
      split at hs
      · rename_i hc
        obtain ⟨rfl, hfit⟩ := hc
        injection hs with hs
        have hlen : es.length = len := by rw [← hs]; simp; omega
        have hco := h.obj id _ hob
        simp only [CO] at hco
        refine ⟨a, cap, by rw [hlen], by omega, ?_⟩
        cases real with
        | false =>
          have := hco.1 rfl; subst this
          left; simpa using hs.symm
        | true =>
          rcases hroom with hroom | ⟨ha, _⟩
          · left; apply List.eq_nil_of_length_eq_zero; omega
          · have hsn : id ∈ sn := by
              rcases hid with hid | ⟨s, es, hid | hid⟩
              · exact hid
              · rw [hob] at hid; cases hid
              · rw [hob] at hid; cases hid
            right
            refine ⟨φ id, off * s', ha, Or.inr ⟨id, hsn, rfl⟩, ?_⟩
            have := ((hco.2 rfl).2.drop off).take len
            rw [hs, Nat.zero_add] at this
            exact CRows.keeps (goes_shown sn).keeps rfl _ _ _ this
      · simp at hs
    · rename_i s' es' hob
      split at hs
      · rename_i hc
        obtain ⟨rfl, hfit⟩ := hc
        injection hs with hs
        have hlen : es.length = len := by rw [← hs]; simp; omega
        have hco := h.obj id _ hob
        simp only [CO] at hco
        refine ⟨a, cap, by rw [hlen], by omega, ?_⟩
        rcases hroom with hroom | ⟨ha, _⟩
        · left; apply List.eq_nil_of_length_eq_zero; omega
        · right
          refine ⟨φ id, off * s', ha, Or.inl hco.1, ?_⟩
          have := (hco.2.drop off).take len
          rw [hs, Nat.zero_add] at this
          exact CRows.keeps (goes_shown sn).keeps rfl _ _ _ this
      · simp at hs
    · simp at hs

theorem cellT_ok (h : RS E F sto w A φ) {sn : List Nat} {x : AV} {t : T} {v : Value} (ht : cellT sto sn x = some t) (hx : CA A φ w x v) : CT (shown A φ sn) w t v := by
  cases x with
  | t y =>
    simp only [cellT, Option.some.injEq] at ht; subst ht
    exact CT.keeps (goes_shown (φ := φ) sn).keeps _ _ (by simpa only [CA] using hx)
  | own id sz off len r =>
    simp only [cellT] at ht
    split at ht
    · rename_i h0; subst h0
      injection ht with ht; subst ht
      simp only [CA] at hx
      obtain ⟨a, cap, rfl, hle, _⟩ := hx
      simp only [CT]
      exact ⟨a, cap, rfl, Nat.zero_le _, Or.inl trivial⟩
    · split at ht
      · rename_i hin
        obtain ⟨es, hes, rfl⟩ := Option.map_eq_some_iff.1 ht
        exact own_ok h (by simp only [slTrees, AV.asOwn, if_true]; exact hes) (Or.inl hin) hx
      · cases ht
  | _ => simp [cellT] at ht

theorem cellsT_ok (h : RS E F sto w A φ) {sn : List Nat} {b : Nat} : ∀ {cs : List AV} {ts : List T} {vals : List Value} {o : Nat}, cellsT sto sn cs = some ts → CAs A φ w cs vals → (∀ (k : Nat) v, vals[k]? = some v → w.cell? ⟨b, o + k, none⟩ = some v) → ts.length = cs.length ∧ CCells (shown A φ sn) w b o ts
  | [], ts, _, _, ht, _, _ => by simp only [cellsT, Option.some.injEq] at ht; subst ht; simp [CCells]
  | c :: cs, ts, vals, o, ht, hx, hc => by
    simp only [cellsT] at ht
    split at ht
    · rename_i a as h1 h2
      injection ht with ht; subst ht
      simp only [CAs] at hx
      obtain ⟨z, zs, rfl, g1, g2⟩ := hx
      obtain ⟨l, r⟩ := cellsT_ok h (o := o + 1) h2 g2 fun k v hv => by
        have := hc (k + 1) v (by simpa using hv)
        rwa [show o + (k + 1) = o + 1 + k by omega] at this
      simp only [CCells, List.length_cons, l]
      exact ⟨trivial, ⟨z, by simpa using hc 0 z rfl, cellT_ok h h1 g1⟩, r⟩
    · cases ht

theorem rowsT_ok (h : RS E F sto w A φ) {sn : List Nat} {b sz : Nat} : ∀ {es : List (List AV)} {ts : List (List T)} {vals : List Value} {o : Nat}, rowsT sto sn es = some ts → (∀ x ∈ es, x.length = sz) → CAs A φ w es.flatten vals → (∀ (k : Nat) v, vals[k]? = some v → w.cell? ⟨b, o + k, none⟩ = some v) → ts.length = es.length ∧ CRows (shown A φ sn) w sz b o ts
  | [], ts, _, _, ht, _, _, _ => by simp only [rowsT, Option.some.injEq] at ht; subst ht; simp [CRows]
  | e :: es, ts, vals, o, ht, hl, hx, hc => by
    simp only [rowsT] at ht
    split at ht
    · rename_i a as h1 h2
      injection ht with ht; subst ht
      rw [List.flatten_cons] at hx
      have x1 := hx.take e.length
      have x2 := hx.drop e.length
      rw [List.take_left] at x1
      rw [List.drop_left] at x2
      have hes := hl e (by simp)
      obtain ⟨l1, r1⟩ := cellsT_ok h (b := b) (o := o) h1 x1 fun k v hv => by
        rw [List.getElem?_take] at hv
        split at hv
        · exact hc k v hv
        · cases hv
      obtain ⟨l2, r2⟩ := rowsT_ok h (b := b) (o := o + sz) h2 (fun x hx => hl x (by simp [hx])) x2 fun k v hv => by
        rw [List.getElem?_drop, hes] at hv
        have := hc _ v hv
        rwa [show o + (sz + k) = o + sz + k by omega] at this
      simp only [CRows, List.length_cons, l2]
      exact ⟨trivial, ⟨by rw [l1, hes], r1⟩, r2⟩
    · cases ht

theorem shA_ok (h : RS E F sto w A φ) {sn : List Nat} {id sz len : Nat} {r : Bool} {es : List (List T)} {v : Value} (hid : id ∈ sn) (hs : shA sto sn sz len (sto id) = some es) (hx : CA A φ w (.own id sz 0 len r) v) : CT (shown A φ sn) w (.sl sz es) v := by
  unfold shA at hs
  split at hs
  · rename_i s xs hob
    split at hs
    · rename_i hc
      obtain ⟨rfl, hlen⟩ := hc
      simp only [CA] at hx
      obtain ⟨a, cap, rfl, hle, hrf, hroom⟩ := hx
      have hco := h.obj id _ hob
      simp only [CO] at hco
      obtain ⟨hl, ys, e, g1, pre, post, g2, g3, _⟩ := hco
      obtain ⟨l, hr⟩ := rowsT_ok h (b := φ id) (o := 0) hs hl g3 fun k v hv => by
        rw [cell_of_heap_get g1, ← Array.getElem?_toList, g2, Nat.zero_add, List.getElem?_append_left (List.getElem?_eq_some_iff.1 hv).1]; exact hv
      simp only [CT]
      refine ⟨a, cap, by rw [l, hlen], by omega, ?_⟩
      rcases hroom with hroom | ⟨ha, _⟩
      · left; apply List.eq_nil_of_length_eq_zero; omega
      · exact Or.inr ⟨φ id, 0, by simpa using ha, Or.inr ⟨id, hid, rfl⟩, hr⟩
    · cases hs
  · cases hs

theorem Wk.ok (h : RS E F sto w A φ) {sn : List Nat} {x y : AV} {v : Value} (hk : Wk sto sn x y) (hx : CA A φ w x v) : CA (shown A φ sn) φ w y v := by
  have same : x = y → CA (shown A φ sn) φ w y v := fun e => by rw [← e]; exact CA.goes (goes_shown sn) x v (fun _ _ => rfl) hx
  unfold Wk at hk
  split at hk
  · rename_i id sz off len r sz' es
    obtain ⟨rfl, ⟨hs, hid⟩ | ⟨hid, rfl, hs⟩⟩ := hk
    · simp only [CA]; exact own_ok h hs hid hx
    · simp only [CA]; exact shA_ok h hid hs hx
  · subst hk
    simp only [CA, CT]
    rw [(ca_v hx).1]
    exact ⟨none, 0, rfl, by simp, Or.inl trivial⟩
  · exact same hk

theorem Wks.ok (h : RS E F sto w A φ) {sn : List Nat} {xs ys : List AV} (hk : Wks sto sn xs ys) : ∀ {vs : List Value}, CAs A φ w xs vs → CAs (shown A φ sn) φ w ys vs := by
  induction hk with
  | nil => intro vs hx; simpa only [CAs] using hx
  | one h1 _ ih =>
    intro vs hx
    simp only [CAs] at hx ⊢
    obtain ⟨z, zs, rfl, h2, h3⟩ := hx
    exact ⟨z, zs, rfl, h1.ok h h2, ih h3⟩
  | ag _ _ ih1 ih2 =>
    intro vs hx
    simp only [CAs] at hx ⊢
    obtain ⟨z, zs, rfl, h2, h3⟩ := hx
    simp only [CA] at h2
    obtain ⟨us, rfl, h2⟩ := h2
    exact ⟨_, zs, rfl, by simp only [CA]; exact ⟨us, rfl, ih1 h2⟩, ih2 h3⟩

/-- The store behind a call. -/
def froze (sto : Nat → Option Ob) : List Nat → List (Nat × Ob)
  | [] => []
  | i :: l => (match sto i with
    | some (.row sz true es) => [(i, Ob.fro sz es)]
    | some (.rowA _ _) => [(i, Ob.dead)]
    | _ => []) ++ froze sto l

/-- What is asked of a call. -/
structure CallOk (P : Program) (E : Env) (sto : Nat → Option Ob) (f : FuncId) (xs : List AV) (r : AV) (ins outs : List (Nat × Ob)) (sn : List Nat) (keep : Bool) (ys : List AV) : Prop where
  meets : Meets P E f ys ins r outs
  wk : Wks sto sn xs ys
  insOk : ∀ id ∈ keysOf ins, sto id = stoOf ins id
  newOk : ∀ id ∈ keysOf outs, id ∈ keysOf ins ∨ (sto id = none ∧ 100 ≤ id)
  snOk : ∀ i ∈ sn, 100 ≤ i ∧ i ∉ keysOf ins ∧ isRow (sto i) = true
  keepOk : keep = true → r.plain = true ∧ ∀ id o, stoOf outs id = some o → o.plain
  nd : (keysOf outs).Nodup

/-- The store, with some objects in the place of what it had. -/
def over (l : List (Nat × Ob)) (sto : Nat → Option Ob) : Nat → Option Ob := fun k => match stoOf l k with
  | some o => some o
  | none => sto k

theorem applyWr_over : ∀ {l : List (Nat × Ob)} {sto : Nat → Option Ob}, (keysOf l).Nodup → applyWr sto l = over l sto
  | [], sto, _ => by funext k; simp [applyWr, over, stoOf]
  | (i, o) :: l, sto, h => by
    simp only [keysOf, List.map_cons, List.nodup_cons] at h
    simp only [applyWr]
    rw [applyWr_over h.2]
    funext k
    simp only [over, stoOf]
    by_cases hk : k = i
    · subst hk
      have : stoOf l k = none := by
        cases hs : stoOf l k with
        | none => rfl
        | some o => exact absurd (stoOf_some.1 (by rw [hs]; rfl)) h.1
      simp [this]
    · simp only [if_neg hk]
      split <;> simp [upd_ne _ _ hk]

theorem froze_some {sn : List Nat} {k : Nat} {o : Ob} (h : stoOf (froze sto sn) k = some o) : k ∈ sn ∧ ((∃ sz es, sto k = some (.row sz true es) ∧ o = .fro sz es) ∨ o = .dead) := by
  induction sn with
  | nil => simp [froze, stoOf] at h
  | cons i l ih =>
    simp only [froze] at h
    split at h
    · rename_i sz es hs
      simp only [List.singleton_append, stoOf] at h
      split at h
      · rename_i hk; subst hk
        injection h with h
        exact ⟨by simp, Or.inl ⟨sz, es, hs, h.symm⟩⟩
      · obtain ⟨h1, h2⟩ := ih h
        exact ⟨by simp [h1], h2⟩
    · simp only [List.singleton_append, stoOf] at h
      split at h
      · rename_i hk; subst hk
        injection h with h
        exact ⟨by simp, Or.inr h.symm⟩
      · obtain ⟨h1, h2⟩ := ih h
        exact ⟨by simp [h1], h2⟩
    · simp only [List.nil_append] at h
      obtain ⟨h1, h2⟩ := ih h
      exact ⟨by simp [h1], h2⟩

theorem froze_get {sn : List Nat} {k : Nat} (hk : k ∈ sn) (hs : isRow (sto k) = true) : (stoOf (froze sto sn) k).isSome = true := by
  induction sn with
  | nil => simp at hk
  | cons i l ih =>
    simp only [froze]
    by_cases he : k = i
    · subst he
      unfold isRow at hs
      split at hs
      · rename_i hs2; subst hs; simp [hs2, stoOf]
      · rename_i hs2; simp [hs2, stoOf]
      · cases hs
    · have hk' : k ∈ l := by rcases List.mem_cons.1 hk with h | h; exact absurd h he; exact h
      split
      · simp only [List.singleton_append, stoOf, if_neg he]; exact ih hk'
      · simp only [List.singleton_append, stoOf, if_neg he]; exact ih hk'
      · simpa using ih hk'

theorem over_some {l : List (Nat × Ob)} {k : Nat} (h : (sto k).isSome = true) : (over l sto k).isSome = true := by
  unfold over; split <;> simp [h]

/-- What a call leaves in the abstract store. -/
def after (sto : Nat → Option Ob) (outs : List (Nat × Ob)) (sn : List Nat) (keep : Bool) : Nat → Option Ob :=
  over outs (if keep then sto else over (froze sto sn) sto)

theorem call_ok (h : RS E F sto w A φ) {f : FuncId} {xs ys : List AV} {r : AV} {ins outs : List (Nat × Ob)} {sn : List Nat} {keep : Bool} (hc : CallOk P E sto f xs r ins outs sn keep ys) {vals : Array Value} (hx : CAs A φ w xs vals.toList) :
    FRuns P f vals w fun v w' => ∃ A' φ', Did E F sto A φ w r v (after sto outs sn keep) w' A' φ' := by
  obtain ⟨hm, hwk, hins, hnew, hsn, hkeep, hnd⟩ := hc
  -- the rows that are shown are live, and their blocks are no others'
  have hsl : ∀ i ∈ sn, ∃ o, sto i = some o ∧ o.live = true := fun i hi => isRow_live (hsn i hi).2.2
  have hself : ∀ id o, stoOf ins id = some o → sto id = some o := fun id o ho => by
    rw [hins id (stoOf_some.1 (by rw [ho]; rfl))]; exact ho
  have hA1 : ∀ b, E.gb b → shown A φ sn b := fun b hb => Or.inl (h.gA b hb)
  have hA2 : ∀ b, shown A φ sn b → b < w.heap.size := fun b hb => by
    rcases hb with hb | ⟨i, hi, rfl⟩
    · exact h.alt b hb
    · obtain ⟨o, hs, hlo⟩ := hsl i hi; exact (h.liv i _ hs hlo).2.1
  have hsep : ∀ id o, sto id = some o → o.live = true → id ∉ sn → ¬ shown A φ sn (φ id) := fun id o ho hl hni hb => by
    rcases hb with hb | ⟨i, hi, hb⟩
    · exact (h.liv id o ho hl).1 hb
    · obtain ⟨o2, hs, hlo⟩ := hsl i hi
      exact h.inj id i o _ ho hs hl hlo (fun e => hni (e ▸ hi)) hb
  have hH : Holds (shown A φ sn) φ w ins := {
    obj := fun id o ho => CO.goes (goes_shown sn) o (fun _ _ => rfl) (fun _ => rfl) (h.obj id o (hself id o ho))
    own := fun id o ho => ⟨hsep id o (hself id o ho) (hm.shutIn.live id o ho) (fun hi => (hsn id hi).2.1 (stoOf_some.1 (by rw [ho]; rfl))), (h.liv id o (hself id o ho) (hm.shutIn.live id o ho)).2.1⟩
    inj := fun i j hi hj hij => by
      obtain ⟨oi, hoi⟩ := Option.isSome_iff_exists.1 (stoOf_some.2 hi)
      obtain ⟨oj, hoj⟩ := Option.isSome_iff_exists.1 (stoOf_some.2 hj)
      exact h.inj i j oi oj (hself i oi hoi) (hself j oj hoj) (hm.shutIn.live i oi hoi) (hm.shutIn.live j oj hoj) hij }
  have hrun := hm.runs (shown A φ sn) φ w vals h.gi hA1 hA2 hH (hwk.ok h hx)
  have fin : ∀ v w', (∃ A' φ', Fin E (shown A φ sn) φ w ins r outs v w' A' φ') → ∃ A' φ', Did E F sto A φ w r v (after sto outs sn keep) w' A' φ' := by
    intro v w' ⟨A1, φ1, hf⟩
    obtain ⟨A2, hA2sub, hA2A, hA2back, hA2sn, hres, hobj⟩ : ∃ A2 : Nat → Prop, (∀ b, A2 b → A1 b) ∧ (∀ b, A b → A2 b) ∧ (∀ b, A2 b → b < w.heap.size → shown A φ sn b ∧ (keep = true → A b)) ∧ (keep = false → ∀ b, A1 b → A2 b) ∧
        (∀ φ2 : Nat → Nat, (∀ i ∈ r.ids, φ2 i = φ1 i) → CA A2 φ2 w' r v) ∧ (∀ (φ2 : Nat → Nat) id o, stoOf outs id = some o → (∀ i ∈ o.ids, φ2 i = φ1 i) → CO A2 φ2 w' (φ1 id) o) := by
      cases keep with
      | true =>
        obtain ⟨k1, k2⟩ := hkeep rfl
        refine ⟨fun b => A1 b ∧ (b < w.heap.size → A b), fun b hb => hb.1, fun b hb => ⟨(hf.go.keeps b (Or.inl hb)).1, fun _ => hb⟩, fun b hb hlt => ⟨Or.inl (hb.2 hlt), fun _ => hb.2 hlt⟩, fun hk => by simp at hk, fun φ2 hφ => CA.plain k1 hφ hf.ca, fun φ2 id o ho hφ => CO.plain (k2 id o ho) hφ (hf.holds.obj id o ho)⟩
      | false =>
        refine ⟨A1, fun b hb => hb, fun b hb => (hf.go.keeps b (Or.inl hb)).1, fun b hb hlt => ⟨?_, fun hk => by simp at hk⟩, fun _ b hb => hb, fun φ2 hφ => ?_, fun φ2 id o ho hφ => ?_⟩
        · rcases hf.anew b hb with hb | hb
          · exact hb
          · omega
        · exact CA.goes (Goes.refl A1 w') r v hφ hf.ca
        · exact CO.goes (Goes.refl A1 w') o hφ (fun _ => rfl) (hf.holds.obj id o ho)
    have hg : Goes A A2 w w' := ⟨fun b hb => ⟨hA2A b hb, (hf.go.keeps b (Or.inl hb)).2⟩, hf.go.cap⟩
    have φout : ∀ id ∈ keysOf outs, (if id ∈ keysOf outs then φ1 id else φ id) = φ1 id := fun id hid => if_pos hid
    have φold : ∀ id, (sto id).isSome = true → (if id ∈ keysOf outs then φ1 id else φ id) = φ id := fun id hs => by
      split
      · rename_i hid
        rcases hnew id hid with hi | hn
        · exact hf.agree id hi
        · rw [hn.1] at hs; simp at hs
      · rfl
    -- the store behind the call, by cases
    have haft : ∀ id o, after sto outs sn keep id = some o → (stoOf outs id = some o) ∨ (stoOf outs id = none ∧ ((id ∈ sn ∧ keep = false ∧ ((∃ sz es, sto id = some (.row sz true es) ∧ o = .fro sz es) ∨ o = .dead)) ∨ (sto id = some o ∧ (keep = true ∨ id ∉ sn)))) := by
      intro id o ho
      unfold after over at ho
      split at ho
      · rename_i o' hs; injection ho with ho; subst ho; exact Or.inl hs
      · rename_i hs
        refine Or.inr ⟨hs, ?_⟩
        cases keep with
        | true => simp at ho; exact Or.inr ⟨ho, Or.inl rfl⟩
        | false =>
          simp only [Bool.false_eq_true, if_false] at ho
          split at ho
          · rename_i o' hs2
            injection ho with ho; subst ho
            obtain ⟨h1, h2⟩ := froze_some hs2
            exact Or.inl ⟨h1, rfl, h2⟩
          · rename_i hs2
            refine Or.inr ⟨ho, Or.inr fun hi => ?_⟩
            have hfg := froze_get hi (hsn id hi).2.2
            rw [hs2] at hfg; cases hfg
    have hmono : ∀ id, (sto id).isSome = true → (after sto outs sn keep id).isSome = true := fun id hs => by
      unfold after
      refine over_some ?_
      cases keep with
      | true => exact hs
      | false => exact over_some hs
    have houtsome : ∀ id ∈ keysOf outs, (after sto outs sn keep id).isSome = true := fun id hid => by
      obtain ⟨o, ho⟩ := Option.isSome_iff_exists.1 (stoOf_some.2 hid)
      simp [after, over, ho]
    have hkeepblk : ∀ id o, sto id = some o → o.live = true → id ∉ keysOf outs → w'.heap[φ id]? = w.heap[φ id]? := fun id o ho hl hni => by
      refine hf.old _ (h.liv id o ho hl).2.1 fun k hk he => ?_
      obtain ⟨ok, hok⟩ := Option.isSome_iff_exists.1 (stoOf_some.2 hk)
      exact h.inj k id ok o (hself k ok hok) ho (hm.shutIn.live k ok hok) hl (fun e => hni (e ▸ hm.stay k hk)) he
    have hnotout : ∀ id, stoOf outs id = none → id ∉ keysOf outs := fun id hn hk => by rw [← stoOf_some, hn] at hk; simp at hk
    have hrs : RS E F (after sto outs sn keep) w' A2 (fun id => if id ∈ keysOf outs then φ1 id else φ id) := {
      nod := fun id o ho j hj => by
        rcases haft id o ho with ho | ⟨hno, ⟨h1, h2, ⟨sz, es, h3, h4⟩ | h4⟩ | ⟨ho, _⟩⟩
        · exact houtsome j (hm.shutOut.objs id o ho j hj)
        · subst h4; simp [Ob.ids] at hj
        · subst h4; simp [Ob.ids] at hj
        · exact hmono j (h.nod id o ho j hj)
      obj := fun id o ho => by
        rcases haft id o ho with ho | ⟨hno, ⟨h1, h2, ⟨sz, es, h3, h4⟩ | h4⟩ | ⟨ho, _⟩⟩
        · have hk := stoOf_some.1 (by rw [ho]; rfl : (stoOf outs id).isSome = true)
          simp only [φout id hk]
          exact hobj _ id o ho fun i hi => φout i (hm.shutOut.objs id o ho i hi)
        · subst h4
          have hni := hnotout id hno
          simp only [if_neg hni]
          have hob := h.obj id _ h3
          simp only [CO] at hob ⊢
          refine ⟨hA2sn h2 _ (hf.go.keeps _ (Or.inr ⟨id, h1, rfl⟩)).1, ?_⟩
          exact CRows.keeps hg.keeps (hf.go.keeps _ (Or.inr ⟨id, h1, rfl⟩)).2 _ _ _ (hob.2 trivial).2
        · subst h4; simp only [CO]
        · have hni := hnotout id hno
          simp only [if_neg hni]
          exact CO.goes hg o (fun i hi => φold i (h.nod id o ho i hi)) (fun hl => hkeepblk id o ho hl hni) (h.obj id o ho)
      liv := fun id o ho hl => by
        rcases haft id o ho with ho | ⟨hno, ⟨h1, h2, ⟨sz, es, h3, h4⟩ | h4⟩ | ⟨ho, hks⟩⟩
        · have hk := stoOf_some.1 (by rw [ho]; rfl : (stoOf outs id).isSome = true)
          simp only [φout id hk]
          obtain ⟨o1, o2⟩ := hf.holds.own id o ho
          refine ⟨fun ha => o1 (hA2sub _ ha), o2, ?_⟩
          by_cases hi : id ∈ keysOf ins
          · rw [hf.agree id hi]
            obtain ⟨oi, hoi⟩ := Option.isSome_iff_exists.1 (stoOf_some.2 hi)
            exact (h.liv id oi (hself id oi hoi) (hm.shutIn.live id oi hoi)).2.2
          · rcases hf.fresh id hk with hi' | hlt
            · exact absurd hi' hi
            · exact Or.inr (Nat.le_trans h.size hlt)
        · subst h4; simp [Ob.live] at hl
        · subst h4; simp [Ob.live] at hl
        · have hni := hnotout id hno
          simp only [if_neg hni]
          have hlv := h.liv id o ho hl
          refine ⟨fun ha => ?_, Nat.lt_of_lt_of_le hlv.2.1 hf.size, hlv.2.2⟩
          obtain ⟨b1, b2⟩ := hA2back _ ha hlv.2.1
          rcases hks with hk | hk
          · exact hlv.1 (b2 hk)
          · exact hsep id o ho hl hk b1
      inj := fun i j oi oj hi hj li lj hij => by
        have loc : ∀ id o, after sto outs sn keep id = some o → o.live = true → (id ∈ keysOf outs ∨ (id ∉ keysOf outs ∧ sto id = some o)) := by
          intro id o ho hl
          rcases haft id o ho with ho | ⟨hno, ⟨h1, h2, ⟨sz, es, h3, h4⟩ | h4⟩ | ⟨ho, _⟩⟩
          · exact Or.inl (stoOf_some.1 (by rw [ho]; rfl))
          · subst h4; simp [Ob.live] at hl
          · subst h4; simp [Ob.live] at hl
          · exact Or.inr ⟨hnotout id hno, ho⟩
        have cross : ∀ p q oq, p ∈ keysOf outs → q ∉ keysOf outs → sto q = some oq → oq.live = true → φ1 p ≠ φ q := by
          intro p q oq hp hq hoq lq he
          rcases hf.fresh p hp with hin | hlt
          · rw [hf.agree p hin] at he
            obtain ⟨ok, hok⟩ := Option.isSome_iff_exists.1 (stoOf_some.2 hin)
            exact h.inj p q ok oq (hself p ok hok) hoq (hm.shutIn.live p ok hok) lq (fun e => hq (e ▸ hp)) he
          · have := (h.liv q oq hoq lq).2.1; omega
        rcases loc i oi hi li with hi' | ⟨hi', hsi⟩ <;> rcases loc j oj hj lj with hj' | ⟨hj', hsj⟩
        · simp only [φout i hi', φout j hj']; exact hf.holds.inj i j hi' hj' hij
        · simp only [φout i hi', if_neg hj']; exact cross i j oj hi' hj' hsj lj
        · simp only [φout j hj', if_neg hi']; exact (cross j i oi hj' hi' hsi li).symm
        · simp only [if_neg hi', if_neg hj']; exact h.inj i j oi oj hsi hsj li lj hij
      alt := fun b hb => hf.alt b (hA2sub b hb)
      gi := E.stable w w' (fun b hb => (hg.keeps b (h.gA b hb)).2) h.gi
      gA := fun b hb => hA2A b (h.gA b hb)
      os := hf.os.trans h.os
      tape := hf.tape.trans h.tape
      output := hf.output.trans h.output
      drawn := fun hc => Nat.le_trans (h.drawn hc) (hf.drawn hc)
      kept := fun p hp => by
        obtain ⟨k1, k2, k3, k4⟩ := h.kept p hp
        have cellsOf : ∀ id o, sto id = some o → o.live = true → φ id ≠ p.1 := fun id o ho hl e => by
          obtain ⟨ys, e', hb⟩ := CO.cells hl (h.obj id o ho)
          rw [e, k2] at hb; injection hb with hb; exact k3 _ _ _ hb
        have hlt := heap_lt k2
        refine ⟨k1, (hf.old p.1 hlt fun k hk => ?_).trans k2, k3, fun ha => ?_⟩
        · obtain ⟨ok, hok⟩ := Option.isSome_iff_exists.1 (stoOf_some.2 hk)
          exact cellsOf k ok (hself k ok hok) (hm.shutIn.live k ok hok)
        · obtain ⟨b1, _⟩ := hA2back _ ha hlt
          rcases b1 with b1 | ⟨i, hi, hb⟩
          · exact k4 b1
          · obtain ⟨o2, hs, hlo⟩ := hsl i hi
            exact cellsOf i _ hs hlo hb.symm
      vals := fun p hp => ⟨CA.goes hg _ _ (fun i hi => φold i ((h.vals p hp).2 i hi)) (h.vals p hp).1, fun i hi => hmono i ((h.vals p hp).2 i hi)⟩
      size := Nat.le_trans h.size hf.size
      old := fun b hb hne => by
        refine (hf.old b (Nat.lt_of_lt_of_le hb h.size) fun k hk he => ?_).trans (h.old b hb hne)
        obtain ⟨ok, hok⟩ := Option.isSome_iff_exists.1 (stoOf_some.2 hk)
        rcases (h.liv k ok (hself k ok hok) (hm.shutIn.live k ok hok)).2.2 with ⟨h1, h2⟩ | h1
        · exact hne k h1 (by rw [← h2, he])
        · omega
      asub := fun b hb => hA2A b (h.asub b hb)
      anew := fun b hb => by
        by_cases hlt : b < w.heap.size
        · obtain ⟨b1, _⟩ := hA2back b hb hlt
          rcases b1 with b1 | ⟨i, hi, rfl⟩
          · exact h.anew b b1
          · obtain ⟨o2, hs, hlo⟩ := hsl i hi
            rcases (h.liv i _ hs hlo).2.2 with ⟨hio, _⟩ | hl
            · have := h.ioc i hio; have := (hsn i hi).1; omega
            · exact Or.inr hl
        · exact Or.inr (by have := h.size; omega)
      cap := fun b n hb => hg.cap b n (h.cap b n hb)
      ioc := h.ioc
      iok := fun id o ho hl hio => by
        rcases haft id o ho with ho | ⟨hno, ⟨h1, h2, ⟨sz, es, h3, h4⟩ | h4⟩ | ⟨ho, _⟩⟩
        · have hk := stoOf_some.1 (by rw [ho]; rfl : (stoOf outs id).isSome = true)
          simp only [φout id hk]
          rcases hnew id hk with hi | hn
          · rw [hf.agree id hi]
            obtain ⟨oi, hoi⟩ := Option.isSome_iff_exists.1 (stoOf_some.2 hi)
            exact h.iok id oi (hself id oi hoi) (hm.shutIn.live id oi hoi) hio
          · have := h.ioc id hio; omega
        · subst h4; simp [Ob.live] at hl
        · subst h4; simp [Ob.live] at hl
        · have hni := hnotout id hno
          simp only [if_neg hni]
          exact h.iok id o ho hl hio }
    refine ⟨A2, _, hrs, hg, fun id hs => φold id hs, hmono, hres _ fun i hi => φout i (hm.shutOut.vals i (by simpa [idsL] using hi)), fun i hi => houtsome i (hm.shutOut.vals i (by simpa [idsL] using hi))⟩
  rcases hrun with ⟨h1, h2⟩ | ⟨v, w', h1, h2⟩
  · exact Or.inl ⟨h1, h2.mono fun e w' ⟨v, he, hf⟩ => ⟨v, he, fin v w' hf⟩⟩
  · exact Or.inr ⟨v, w', h1, fin v w' h2⟩

end
end Go.Sx

namespace Go.Sx

/-- Names for objects. -/
def ren : List (Nat × Nat) → Nat → Nat
  | [], k => k
  | (i, j) :: l, k => if k = i then j else ren l k

mutual
/-- y says no more than x does. -/
def wkV (sto : Nat → Option Ob) (sn : List Nat) (π : Nat → Nat) : AV → AV → Prop
  | _, .undef => True
  | x, .t (.v v) => x = .t (.v v)
  | x, .t (.sl sz es) => x = .t (.sl sz es) ∨ (x.isNil = true ∧ es = []) ∨ (∃ id off len r, x = .own id sz off len r ∧ slTrees sz sto x = some es ∧ (id ∈ sn ∨ ∃ s es, sto id = some (.fro s es) ∨ sto id = some (.row s false es))) ∨ (∃ id len r, x = .own id sz 0 len r ∧ id ∈ sn ∧ shA sto sn sz len (sto id) = some es)
  | x, .ptr i o => x = .ptr (π i) o
  | x, .ept i s j o => x = .ept (π i) s j o
  | x, .ipt cs => x = .ipt cs
  | x, .ifc b => x = .ifc b
  | x, .own i s o l r => x = .own (π i) s o l r ∨ (x.isNil = true ∧ o = 0 ∧ l = 0 ∧ r = false)
  | .ag xs, .ag ys => wkL sto sn π xs ys
  | .tp xs, .tp ys => wkL sto sn π xs ys
  | .fn f a b, .fn f' a' b' => f = f' ∧ wkL sto sn π a a' ∧ wkL sto sn π b b'
  | _, _ => False
def wkL (sto : Nat → Option Ob) (sn : List Nat) (π : Nat → Nat) : List AV → List AV → Prop
  | [], [] => True
  | x :: xs, y :: ys => wkV sto sn π x y ∧ wkL sto sn π xs ys
  | _, _ => False
end

def wkLL (sto : Nat → Option Ob) (sn : List Nat) (π : Nat → Nat) : List (List AV) → List (List AV) → Prop
  | [], [] => True
  | x :: xs, y :: ys => wkL sto sn π x y ∧ wkLL sto sn π xs ys
  | _, _ => False

def wkO (sto : Nat → Option Ob) (sn : List Nat) (π : Nat → Nat) : Option Ob → Ob → Prop
  | some (.box xs), .box ys => wkL sto sn π xs ys ∧ ys.all AV.one = true
  | some (.row s r es), .row s' r' es' => s = s' ∧ r = r' ∧ es = es'
  | some (.fro s es), .fro s' es' => s = s' ∧ es = es'
  | some (.row s r es), .rowA s' es' => s = s' ∧ r = true ∧ wkLL sto sn π (es.map (List.map AV.t)) es'
  | some (.rowA s es), .rowA s' es' => s = s' ∧ wkLL sto sn π es es'
  | none, .row _ r es => r = false ∧ es = []
  | _, .dead => True
  | _, _ => False

/-- The objects of the lesser state. -/
structure SubO (sto sto' : Nat → Option Ob) (π : Nat → Nat) (sn : List Nat) : Prop where
  obj : ∀ id o, sto' id = some o → wkO sto sn π (sto (π id)) o
  nod : ∀ id o, sto' id = some o → ∀ j ∈ o.ids, (sto' j).isSome = true
  inj : ∀ i j oi oj, sto' i = some oi → sto' j = some oj → oi.live = true → oj.live = true → π i = π j → i = j
  snOk : ∀ i ∈ sn, 100 ≤ i ∧ isRow (sto i) = true ∧ ∀ id o, sto' id = some o → o.live = true → π id ≠ i

section
variable {E : Env} {F : Frm} {sto sto' : Nat → Option Ob} {w : World} {A : Nat → Prop} {φ : Nat → Nat} {π : Nat → Nat} {sn : List Nat} {ds : List Deferred}

theorem isNil_eq {x : AV} (h : x.isNil = true) : x = .t (.v (.slice none 0 0)) := by
  unfold AV.isNil at h
  split at h
  · rfl
  · simp at h

mutual
theorem wkV.ok (h : RS E F sto w A φ) : ∀ (x y : AV) (v : Value), wkV sto sn π x y → CA A φ w x v → CA (shown A φ sn) (φ ∘ π) w y v
  | x, .undef, v, _, _ => by simp only [CA]
  | x, .t (.v u), v, hk, hx => by
    simp only [wkV] at hk; subst hk
    simpa only [CA, CT] using hx
  | x, .t (.sl sz es), v, hk, hx => by
    simp only [wkV] at hk
    have base : CA (shown A φ sn) φ w (.t (.sl sz es)) v → CA (shown A φ sn) (φ ∘ π) w (.t (.sl sz es)) v := fun h => by simpa only [CA] using h
    rcases hk with hk | ⟨hk, he⟩ | ⟨id, off, len, r, hk, hs, hid⟩ | ⟨id, len, r, hk, hid, hs⟩
    · subst hk; exact base (CA.goes (goes_shown sn) _ v (fun _ _ => rfl) hx)
    · subst he; rw [isNil_eq hk] at hx
      exact base (Wk.ok (sn := sn) h (x := .t (.v (.slice none 0 0))) (y := .t (.sl sz [])) rfl hx)
    · subst hk
      exact base (Wk.ok (sn := sn) h (x := .own id sz off len r) (y := .t (.sl sz es)) ⟨rfl, Or.inl ⟨hs, hid⟩⟩ hx)
    · subst hk
      exact base (Wk.ok (sn := sn) h (x := .own id sz 0 len r) (y := .t (.sl sz es)) ⟨rfl, Or.inr ⟨hid, rfl, hs⟩⟩ hx)
  | x, .ptr i o, v, hk, hx => by
    simp only [wkV] at hk; subst hk
    simpa only [CA, Function.comp] using hx
  | x, .ept i s j o, v, hk, hx => by
    simp only [wkV] at hk; subst hk
    simpa only [CA, Function.comp] using hx
  | x, .ipt cs, v, hk, hx => by
    simp only [wkV] at hk; subst hk
    have := CA.goes (φ' := φ ∘ π) (goes_shown (φ := φ) sn) _ v (fun i hi => by simp [AV.ids] at hi) hx
    exact this
  | x, .ifc b, v, hk, hx => by
    simp only [wkV] at hk; subst hk
    simpa only [CA] using hx
  | x, .own i s o l r, v, hk, hx => by
    simp only [wkV] at hk
    rcases hk with hk | ⟨hk, rfl, rfl, rfl⟩
    · subst hk; simpa only [CA, Function.comp] using hx
    · rw [isNil_eq hk] at hx
      rw [(ca_v hx).1]
      simp only [CA]
      exact ⟨none, 0, rfl, Nat.le_refl _, fun _ => rfl, Or.inl rfl⟩
  | .ag xs, .ag ys, v, hk, hx => by
    simp only [wkV] at hk
    simp only [CA] at hx ⊢
    obtain ⟨us, rfl, hx⟩ := hx
    exact ⟨us, rfl, wkL.ok h xs ys _ hk hx⟩
  | .tp xs, .tp ys, v, hk, hx => by
    simp only [wkV] at hk
    simp only [CA] at hx ⊢
    obtain ⟨us, rfl, hx⟩ := hx
    exact ⟨us, rfl, wkL.ok h xs ys _ hk hx⟩
  | .fn f a b, .fn f' a' b', v, hk, hx => by
    simp only [wkV] at hk
    obtain ⟨rfl, h1, h2⟩ := hk
    simp only [CA] at hx ⊢
    obtain ⟨us, vs, rfl, g1, g2⟩ := hx
    exact ⟨us, vs, rfl, wkL.ok h a a' _ h1 g1, wkL.ok h b b' _ h2 g2⟩
  | .ifc _, .ag _, _, hk, _ | .t _, .ag _, _, hk, _ | .tp _, .ag _, _, hk, _ | .ptr _ _, .ag _, _, hk, _ | .ept _ _ _ _, .ag _, _, hk, _ | .ipt _, .ag _, _, hk, _ | .own _ _ _ _ _, .ag _, _, hk, _ | .fn _ _ _, .ag _, _, hk, _ | .undef, .ag _, _, hk, _ => by simp [wkV] at hk
  | .ifc _, .tp _, _, hk, _ | .t _, .tp _, _, hk, _ | .ag _, .tp _, _, hk, _ | .ptr _ _, .tp _, _, hk, _ | .ept _ _ _ _, .tp _, _, hk, _ | .ipt _, .tp _, _, hk, _ | .own _ _ _ _ _, .tp _, _, hk, _ | .fn _ _ _, .tp _, _, hk, _ | .undef, .tp _, _, hk, _ => by simp [wkV] at hk
  | .ifc _, .fn _ _ _, _, hk, _ | .t _, .fn _ _ _, _, hk, _ | .ag _, .fn _ _ _, _, hk, _ | .tp _, .fn _ _ _, _, hk, _ | .ptr _ _, .fn _ _ _, _, hk, _ | .ept _ _ _ _, .fn _ _ _, _, hk, _ | .ipt _, .fn _ _ _, _, hk, _ | .own _ _ _ _ _, .fn _ _ _, _, hk, _ | .undef, .fn _ _ _, _, hk, _ => by simp [wkV] at hk
theorem wkL.ok (h : RS E F sto w A φ) : ∀ (xs ys : List AV) (vs : List Value), wkL sto sn π xs ys → CAs A φ w xs vs → CAs (shown A φ sn) (φ ∘ π) w ys vs
  | [], [], vs, _, hx => by simpa only [CAs] using hx
  | [], _ :: _, _, hk, _ => by simp [wkL] at hk
  | _ :: _, [], _, hk, _ => by simp [wkL] at hk
  | x :: xs, y :: ys, vs, hk, hx => by
    simp only [wkL] at hk
    simp only [CAs] at hx ⊢
    obtain ⟨z, zs, rfl, h1, h2⟩ := hx
    exact ⟨z, zs, rfl, wkV.ok h x y z hk.1 h1, wkL.ok h xs ys zs hk.2 h2⟩
end

theorem wkL_len : ∀ {xs ys : List AV}, wkL sto sn π xs ys → ys.length = xs.length
  | [], [], _ => rfl
  | [], _ :: _, h => by simp [wkL] at h
  | _ :: _, [], h => by simp [wkL] at h
  | x :: xs, y :: ys, h => by simp only [wkL] at h; simp [wkL_len h.2]

theorem wkL_app : ∀ {xs ys xs' ys' : List AV}, wkL sto sn π xs ys → wkL sto sn π xs' ys' → wkL sto sn π (xs ++ xs') (ys ++ ys')
  | [], [], _, _, _, h => h
  | [], _ :: _, _, _, h, _ => by simp [wkL] at h
  | _ :: _, [], _, _, h, _ => by simp [wkL] at h
  | x :: xs, y :: ys, _, _, h, k => by simp only [wkL, List.cons_append] at h ⊢; exact ⟨h.1, wkL_app h.2 k⟩

theorem wkLL_flat : ∀ {xs ys : List (List AV)}, wkLL sto sn π xs ys → wkL sto sn π xs.flatten ys.flatten
  | [], [], _ => by simp [wkL]
  | [], _ :: _, h => by simp [wkLL] at h
  | _ :: _, [], h => by simp [wkLL] at h
  | x :: xs, y :: ys, h => by simp only [wkLL] at h; simp only [List.flatten_cons]; exact wkL_app h.1 (wkLL_flat h.2)

theorem wkLL_lens {sz : Nat} : ∀ {xs ys : List (List AV)}, wkLL sto sn π xs ys → (∀ x ∈ xs, x.length = sz) → ∀ y ∈ ys, y.length = sz
  | [], [], _, _ => by simp
  | [], _ :: _, h, _ => by simp [wkLL] at h
  | _ :: _, [], h, _ => by simp [wkLL] at h
  | x :: xs, y :: ys, h, hl => by
    simp only [wkLL] at h
    intro z hz
    rcases List.mem_cons.1 hz with rfl | hz
    · rw [wkL_len h.1]; exact hl x (by simp)
    · exact wkLL_lens h.2 (fun q hq => hl q (by simp [hq])) z hz

theorem wkO.live {x : Option Ob} {y : Ob} (h : wkO sto sn π x y) (hl : y.live = true) : ∃ o, x = some o ∧ o.live = true := by
  unfold wkO at h
  split at h
  · exact ⟨_, rfl, rfl⟩
  · obtain ⟨rfl, rfl, rfl⟩ := h; exact ⟨_, rfl, hl⟩
  · simp [Ob.live] at hl
  · obtain ⟨rfl, rfl, _⟩ := h; exact ⟨_, rfl, rfl⟩
  · exact ⟨_, rfl, rfl⟩
  · simp [Ob.live] at hl; rw [h.1] at hl; simp at hl
  · simp [Ob.live] at hl
  · exact h.elim

/-- The lesser state stands for the same world. -/
theorem SubO.ok (hV : F.V = []) (h : RS E F sto w A φ) (hs : SubO sto sto' π sn) (hio : ∀ i ∈ F.io, (sto' i).isSome = true → π i = i ∧ i < 100) (hio2 : ∀ id o, sto' id = some o → o.live = true → π id ∈ F.io → id = π id) :
    RS E F sto' w (shown A φ sn) (φ ∘ π) where
  nod := hs.nod
  obj := fun id o ho => by
    have hk := hs.obj id o ho
    unfold wkO at hk
    split at hk
    · rename_i xs ys hx
      have hob := h.obj _ _ hx
      simp only [CO] at hob ⊢
      obtain ⟨us, e, h1, h2, h3⟩ := hob
      exact ⟨us, e, h1, wkL.ok h xs ys _ hk.1 h2, h3⟩
    · rename_i s r es s' r' es' hx
      obtain ⟨rfl, rfl, rfl⟩ := hk
      have hob := h.obj _ _ hx
      simp only [CO, Function.comp] at hob ⊢
      exact ⟨hob.1, fun hr => ⟨(hob.2 hr).1, CRows.keeps (goes_shown sn).keeps rfl _ _ _ (hob.2 hr).2⟩⟩
    · rename_i s es s' es' hx
      obtain ⟨rfl, rfl⟩ := hk
      have hob := h.obj _ _ hx
      simp only [CO, Function.comp] at hob ⊢
      exact ⟨Or.inl hob.1, CRows.keeps (goes_shown sn).keeps rfl _ _ _ hob.2⟩
    · rename_i s r es s' es' hx
      obtain ⟨rfl, rfl, hk⟩ := hk
      have hob := h.obj _ _ hx
      simp only [CO, Function.comp] at hob ⊢
      obtain ⟨⟨ys, e, hb⟩, hr⟩ := hob.2 trivial
      obtain ⟨vals, v1, v2, v3⟩ := hr.flatten.1.toCAs (φ := φ)
      have hpre : ys.toList = vals ++ ys.toList.drop vals.length := by
        have : ys.toList.take vals.length = vals := by
          apply List.ext_getElem?
          intro q
          rw [List.getElem?_take]
          split
          · rename_i hq
            have hv := List.getElem?_eq_getElem hq
            have := v3 q _ hv
            rw [cell_of_heap_get hb, Nat.zero_add] at this
            rw [Array.getElem?_toList, this, hv]
          · rw [List.getElem?_eq_none (by omega)]
        conv => lhs; rw [← List.take_append_drop vals.length ys.toList, this]
      have hlens : ∀ x ∈ es.map (List.map AV.t), x.length = s := fun x hx => by
        obtain ⟨c, hc, rfl⟩ := List.mem_map.1 hx
        rw [List.length_map]; exact hr.lens c hc
      refine ⟨fun x hx => wkLL_lens hk hlens x hx, ys, e, hb, vals, _, hpre, ?_, fun y hy => ?_⟩
      · refine wkL.ok h _ _ _ (wkLL_flat hk) ?_
        rw [← List.map_flatten]; exact v1
      · obtain ⟨x, hx, hc⟩ := CAs.mem v1 y hy
        obtain ⟨c, _, rfl⟩ := List.mem_map.1 hx
        simp only [CA] at hc; exact CT.oneCell hc
    · rename_i s es s' es' hx
      obtain ⟨rfl, hk⟩ := hk
      have hob := h.obj _ _ hx
      simp only [CO, Function.comp] at hob ⊢
      obtain ⟨hl, ys, e, hb, pre, post, g2, g3, g4⟩ := hob
      refine ⟨fun x hx => wkLL_lens hk hl x hx, ys, e, hb, pre, post, g2, wkL.ok h _ _ _ (wkLL_flat hk) g3, g4⟩
    · obtain ⟨rfl, rfl⟩ := hk
      simp [CO]
    · simp [CO]
    · exact hk.elim
  liv := fun id o ho hl => by
    obtain ⟨o', ho', hl'⟩ := wkO.live (hs.obj id o ho) hl
    have hlv := h.liv _ o' ho' hl'
    refine ⟨fun hb => ?_, hlv.2.1, ?_⟩
    · rcases hb with hb | ⟨i, hi, hb⟩
      · exact hlv.1 hb
      · obtain ⟨h1, h2', h3⟩ := hs.snOk i hi
        obtain ⟨oi, h2, hli⟩ := isRow_live h2'
        exact h.inj _ _ _ _ ho' h2 hl' hli (h3 id o ho hl) hb
    · rcases hlv.2.2 with ⟨h1, h2⟩ | h1
      · have e := hio2 id o ho hl h1
        left
        rw [← e] at h1 h2
        refine ⟨h1, ?_⟩
        simp only [Function.comp]
        rw [← e]; exact h2
      · exact Or.inr h1
  inj := fun i j oi oj hi hj li lj hij => by
    obtain ⟨pi, hpi, lpi⟩ := wkO.live (hs.obj i oi hi) li
    obtain ⟨pj, hpj, lpj⟩ := wkO.live (hs.obj j oj hj) lj
    exact h.inj _ _ pi pj hpi hpj lpi lpj fun e => hij (hs.inj i j oi oj hi hj li lj e)
  alt := fun b hb => by
    rcases hb with hb | ⟨i, hi, rfl⟩
    · exact h.alt b hb
    · obtain ⟨_, h2', _⟩ := hs.snOk i hi; obtain ⟨oi, h2, hli⟩ := isRow_live h2'; exact (h.liv _ _ h2 hli).2.1
  gi := h.gi
  gA := fun b hb => Or.inl (h.gA b hb)
  os := h.os
  tape := h.tape
  output := h.output
  drawn := h.drawn
  kept := fun p hp => by
    obtain ⟨k1, k2, k3, k4⟩ := h.kept p hp
    refine ⟨k1, k2, k3, fun ha => ?_⟩
    rcases ha with ha | ⟨i, hi, ha⟩
    · exact k4 ha
    · obtain ⟨_, h2', _⟩ := hs.snOk i hi
      obtain ⟨oi, h2, hli⟩ := isRow_live h2'
      obtain ⟨ys, e, hb⟩ := CO.cells hli (h.obj i _ h2)
      rw [ha, hb] at k2; injection k2 with k2; exact k3 _ _ _ k2.symm
  vals := fun p hp => by rw [hV] at hp; simp at hp
  size := h.size
  old := h.old
  asub := fun b hb => Or.inl (h.asub b hb)
  anew := fun b hb => by
    rcases hb with hb | ⟨i, hi, rfl⟩
    · exact h.anew b hb
    · obtain ⟨h1, h2', _⟩ := hs.snOk i hi
      obtain ⟨oi, h2, hli⟩ := isRow_live h2'
      rcases (h.liv _ _ h2 hli).2.2 with ⟨h3, _⟩ | h3
      · have := h.ioc i h3; omega
      · exact Or.inr h3
  cap := h.cap
  ioc := h.ioc
  iok := fun id o ho hl hi => by
    obtain ⟨o', ho', hl'⟩ := wkO.live (hs.obj id o ho) hl
    have e := (hio id hi (by rw [ho]; rfl)).1
    have := h.iok _ o' ho' hl' (by rw [e]; exact hi)
    simp only [Function.comp]; rw [this, e]

/-- A lesser state. -/
structure Sub (io : List Nat) (s s' : St) : Prop where
  ex : ∃ (π : Nat → Nat) (sn : List Nat), SubO s.sto s'.sto π sn ∧ (∀ k, wkV s.sto sn π (s.env k) (s'.env k)) ∧ (∀ k, ∀ i ∈ (s'.env k).ids, (s'.sto i).isSome = true) ∧
    (∀ i ∈ io, π i = i) ∧ (∀ id, (s'.sto id).isSome = true → π id ∈ io → id = π id)

theorem Sub.ok {s s' : St} {n : Nat} {a : Act} (hV : F.V = []) (hs : Sub F.io s s') (h : RS E F s.sto w A φ) (r : RE ds s n a w A φ) : ∃ A' φ', RS E F s'.sto w A' φ' ∧ RE ds s' n a w A' φ' := by
  obtain ⟨π, sn, h1, h2, h3, h4, h5⟩ := hs.ex
  refine ⟨_, _, h1.ok hV h (fun i hi _ => ⟨h4 i hi, h.ioc i hi⟩) (fun id o ho _ hio => h5 id (by rw [ho]; rfl) hio), ⟨r.size, r.defers, fun k => wkV.ok h _ _ _ (h2 k) (r.val k), h3⟩⟩
end
end Go.Sx

namespace Go.Sx

/-- All functions, any depth; in a round of a range over a function, or not. -/
def fnc (ro : Option Nat) : Fence := { Fence.wide with round := ro }

theorem calls_fnc {P : Program} {f : FuncId} {args : Array Value} {w : World} {R : Ending → World → Prop} (ro : Option Nat) (n : Nat) (h : Calls P f args w R) : CallsIn (fnc ro) n P f args w R := by
  cases ro with
  | none => exact callsIn_wide.2 h
  | some l => exact CallsIn.mono (F := fnc (some l)) (callsIn_wide.2 h) (fun _ _ h => h)

inductive SK where
  | op (o : SOp)
  | call (f : SV) (args : List SV)
  deriving Inhabited

/-- A slim operation with its slot, and its guard's slot. -/
structure SO where
  dst : Option Nat
  k : SK
  guard : Option (Nat × Bool)
  deriving Inhabited

def SK.svs : SK → List SV
  | .op o => o.svs
  | .call f as => f :: as

def SO.svs (o : SO) : List SV := (match o.guard with
  | some (t, _) => [.tm t]
  | none => []) ++ o.k.svs

/-- What a step has done: its answer, the objects that it looked at, those that it wrote. -/
structure Rc where
  x : AV
  rd : List Nat
  wr : List (Nat × Ob)

def putE (env : Nat → AV) : Option Nat → AV → (Nat → AV)
  | some d, x => upd env d x
  | none, _ => env

def St.app (st : St) (d : Option Nat) (rc : Rc) : St := ⟨putE st.env d rc.x, over rc.wr st.sto⟩

/-- Does the guard let it run? -/
def wantedA (g : Option (Nat × Bool)) (env : Nat → AV) : Option Bool :=
  match g with
  | none => some true
  | some (t, want) => match env t with
    | .t (.v (.bool b)) => some (b == want)
    | .tp [] => some false
    | _ => none

def CanK (P : Program) (E : Env) (id : Nat) (k : SK) (st : St) (rc : Rc) : Prop :=
  match k with
  | .op o => core id o (·.ev st.env) st.sto = some (rc.x, rc.wr) ∧ rc.rd = rds id o (·.ev st.env)
  | .call f as => ∃ g first caps, f.ev st.env = .fn g first caps ∧ ∃ ins outs sn keep ys, CallOk P E st.sto g (first ++ as.map (·.ev st.env) ++ caps) rc.x ins outs sn keep ys ∧
      rc.wr = outs ++ (if keep then [] else froze st.sto sn) ∧ rc.rd = idsL (first ++ as.map (·.ev st.env) ++ caps) ++ keysOf outs ++ sn

def Can (P : Program) (E : Env) (id : Nat) (o : SO) (st : St) (rc : Rc) : Prop :=
  match wantedA o.guard st.env with
  | some false => rc = ⟨.tp [], [], []⟩
  | some true => CanK P E id o.k st rc
  | none => False

theorem over_append (a b : List (Nat × Ob)) (sto : Nat → Option Ob) : over (a ++ b) sto = over a (over b sto) := by
  funext k
  induction a with
  | nil => simp [over, stoOf]
  | cons p a ih =>
    obtain ⟨i, o⟩ := p
    simp only [over, List.cons_append, stoOf] at ih ⊢
    by_cases hk : k = i
    · simp [hk]
    · simp only [if_neg hk]; exact ih

theorem over_other {l : List (Nat × Ob)} {sto : Nat → Option Ob} {k : Nat} (h : k ∉ keysOf l) : over l sto k = sto k := by
  unfold over
  cases hs : stoOf l k with
  | none => rfl
  | some o => exact absurd (stoOf_some.1 (by rw [hs]; rfl)) h

theorem over_comm {a b : List (Nat × Ob)} {sto : Nat → Option Ob} (h : ∀ i ∈ keysOf a, i ∉ keysOf b) : over a (over b sto) = over b (over a sto) := by
  funext k
  by_cases ha : k ∈ keysOf a
  · rw [over_other (h k ha)]
    simp only [over]
    obtain ⟨o, ho⟩ := Option.isSome_iff_exists.1 (stoOf_some.2 ha)
    simp [ho]
  · rw [over_other ha]
    simp only [over]
    cases stoOf b k with
    | some o => rfl
    | none =>
      have := over_other (sto := sto) ha
      simp only [over] at this
      simp [this]

theorem core_nodup {id : Nat} {o : SOp} {ρ : SV → AV} {sto : Nat → Option Ob} {x : AV} {wr : List (Nat × Ob)} (h : core id o ρ sto = some (x, wr)) : (keysOf wr).Nodup := by
  cases o with
  | app sz bytes s y =>
    simp only [core] at h
    split at h
    · split at h
      · split at h
        · rename_i hj
          split at h
          · rename_i hc
            simp only [Option.some.injEq, Prod.mk.injEq] at h
            obtain ⟨_, rfl⟩ := h
            obtain ⟨_, _, _, _, _, _, _, _, hn⟩ := hc
            simp only [keysOf, List.map_cons, List.map_nil, List.nodup_cons, List.mem_singleton, List.not_mem_nil, not_false_eq_true, List.nodup_nil, and_self, and_true]
            intro e; rw [e] at hj; rw [isFresh_none hn] at hj; simp at hj
          · simp at h
        · rename_i hj
          split at h
          · rename_i hc
            simp only [Option.some.injEq, Prod.mk.injEq] at h
            obtain ⟨_, rfl⟩ := h
            obtain ⟨_, _, _, _, _, _, _, hn⟩ := hc
            simp only [keysOf, List.map_cons, List.map_nil, List.nodup_cons, List.mem_singleton, List.not_mem_nil, not_false_eq_true, List.nodup_nil, and_self, and_true]
            intro e; rw [e] at hj; rw [isFresh_none hn] at hj; simp at hj
          · simp at h
        · simp at h
      · split at h
        · simp only [Option.some.injEq, Prod.mk.injEq] at h
          obtain ⟨_, rfl⟩ := h
          simp [keysOf]
        · simp at h
    · simp at h
  | _ =>
    simp only [core] at h
    repeat' split at h
    all_goals first
      | (simp only [Option.some.injEq, Prod.mk.injEq] at h; obtain ⟨_, rfl⟩ := h; simp [keysOf])
      | (simp only [Option.map_eq_some_iff] at h; obtain ⟨_, _, h⟩ := h; injection h with _ h; subst h; simp [keysOf])
      | simp at h

/-- Slots and objects apart: the two may change places. -/
structure Apart (o : SO) (r : Rc) (o' : SO) (r' : Rc) : Prop where
  d1 : ∀ d, o.dst = some d → (∀ k, SV.tm k ∈ o'.svs → k ≠ d) ∧ o'.dst ≠ some d
  d2 : ∀ d, o'.dst = some d → ∀ k, SV.tm k ∈ o.svs → k ≠ d
  w1 : ∀ i ∈ keysOf r.wr, i ∉ r'.rd ∧ i ∉ keysOf r'.wr
  w2 : ∀ i ∈ keysOf r'.wr, i ∉ r.rd

section
variable {P : Program} {E : Env} {G : Nat → Option (List T)} {F : Frm} {ds : List Deferred}

theorem cellT_local {sto sto' : Nat → Option Ob} {sn : List Nat} (hn : ∀ i ∈ sn, sto' i = sto i) (x : AV) : cellT sto' sn x = cellT sto sn x := by
  cases x with
  | own id sz off len r =>
    simp only [cellT]
    split
    · rfl
    · split
      · rename_i h; rw [hn id h]
      · rfl
  | _ => rfl

theorem cellsT_local {sto sto' : Nat → Option Ob} {sn : List Nat} (hn : ∀ i ∈ sn, sto' i = sto i) : ∀ l : List AV, cellsT sto' sn l = cellsT sto sn l
  | [] => rfl
  | x :: l => by simp only [cellsT, cellT_local hn, cellsT_local hn l]

theorem rowsT_local {sto sto' : Nat → Option Ob} {sn : List Nat} (hn : ∀ i ∈ sn, sto' i = sto i) : ∀ l : List (List AV), rowsT sto' sn l = rowsT sto sn l
  | [] => rfl
  | x :: l => by simp only [rowsT, cellsT_local hn, rowsT_local hn l]

theorem shA_local {sto sto' : Nat → Option Ob} {sn : List Nat} (hn : ∀ i ∈ sn, sto' i = sto i) (sz len : Nat) (o : Option Ob) : shA sto' sn sz len o = shA sto sn sz len o := by
  unfold shA
  split
  · split
    · exact rowsT_local hn _
    · rfl
  · rfl

theorem Wk.local {sto sto' : Nat → Option Ob} {sn : List Nat} {x y : AV} (hn : ∀ i ∈ sn, sto' i = sto i) (hs : ∀ i ∈ x.ids, sto' i = sto i) (h : Wk sto sn x y) : Wk sto' sn x y := by
  unfold Wk at h ⊢
  split at h
  · rename_i id sz off len r sz' es
    have e := hs id (by simp [AV.ids])
    simp only [slTrees, AV.asOwn] at h ⊢
    rw [e, shA_local hn]; exact h
  · exact h
  · exact h

theorem Wks.local {sto sto' : Nat → Option Ob} {sn : List Nat} {xs ys : List AV} (hn : ∀ i ∈ sn, sto' i = sto i) (h : Wks sto sn xs ys) : (∀ i ∈ idsL xs, sto' i = sto i) → Wks sto' sn xs ys := by
  induction h with
  | nil => intro _; exact .nil
  | one h1 _ ih => intro hs; exact .one (h1.local hn fun i hi => hs i (by simp [idsL, hi])) (ih fun i hi => hs i (by simp [idsL, hi]))
  | ag _ _ ih1 ih2 => intro hs; exact .ag (ih1 fun i hi => hs i (by simp [idsL, AV.ids, hi])) (ih2 fun i hi => hs i (by simp [idsL, hi]))

theorem ev_local {env env' : Nat → AV} {x : SV} (h : ∀ k, x = .tm k → env' k = env k) : x.ev env' = x.ev env := by
  cases x with
  | tm k => exact h k rfl
  | c y => rfl

theorem Can.local {id : Nat} {o : SO} {st st' : St} {rc : Rc} (h : Can P E id o st rc) (he : ∀ k, SV.tm k ∈ o.svs → st'.env k = st.env k) (hs : ∀ i ∈ rc.rd, st'.sto i = st.sto i) : Can P E id o st' rc := by
  have hw : wantedA o.guard st'.env = wantedA o.guard st.env := by
    unfold wantedA
    split
    · rfl
    · rename_i t want hg
      rw [he t (by simp [SO.svs, hg])]
  have hev : ∀ x ∈ o.k.svs, x.ev st'.env = x.ev st.env := fun x hx => ev_local fun k hk => he k (by simp only [SO.svs, List.mem_append]; exact Or.inr (hk ▸ hx))
  unfold Can at h ⊢
  rw [hw]
  split at h
  · exact h
  · cases hk : o.k with
    | op so =>
      rw [hk] at h hev
      simp only [CanK] at h ⊢
      obtain ⟨h1, h2⟩ := h
      have := core_local (id := id) (o := so) (ρ := (·.ev st.env)) (ρ' := (·.ev st'.env)) (sto := st.sto) (sto' := st'.sto) (fun x hx => hev x hx) (fun i hi => hs i (by rw [h2]; exact hi))
      exact ⟨this.1.trans h1, h2.trans this.2.symm⟩
    | call f as =>
      rw [hk] at h hev
      simp only [CanK] at h ⊢
      obtain ⟨g, first, caps, h1, ins, outs, sn, keep, ys, hc, h2, h3⟩ := h
      have e1 : f.ev st'.env = f.ev st.env := hev f (by simp [SK.svs])
      have e2 : as.map (·.ev st'.env) = as.map (·.ev st.env) := List.map_congr_left fun x hx => hev x (by simp [SK.svs, hx])
      have hfz : froze st'.sto sn = froze st.sto sn := by
        have : ∀ i ∈ sn, st'.sto i = st.sto i := fun i hi => hs i (by rw [h3]; simp [hi])
        clear h2 h3 hc
        induction sn with
        | nil => rfl
        | cons i l ih => simp only [froze]; rw [this i (by simp), ih fun j hj => this j (by simp [hj])]
      rw [e2]
      refine ⟨g, first, caps, e1.trans h1, ins, outs, sn, keep, ys, ?_, by rw [hfz]; exact h2, h3⟩
      have hout : ∀ i ∈ keysOf outs, st'.sto i = st.sto i := fun i hi => hs i (by rw [h3]; simp [hi])
      exact { meets := hc.meets, wk := hc.wk.local (fun i hi => hs i (by rw [h3]; simp [hi])) fun i hi => hs i (by rw [h3]; exact List.mem_append.2 (Or.inl (List.mem_append.2 (Or.inl hi)))), insOk := fun i hi => (hout i (hc.meets.stay i hi)).trans (hc.insOk i hi)
              newOk := fun i hi => (hc.newOk i hi).imp (fun h => h) fun hn => ⟨(hout i hi).trans hn.1, hn.2⟩
              snOk := fun i hi => by
                obtain ⟨a1, a2, a3⟩ := hc.snOk i hi
                exact ⟨a1, a2, by rw [hs i (by rw [h3]; simp [hi])]; exact a3⟩
              keepOk := hc.keepOk, nd := hc.nd }
  · exact h.elim

/-- Two steps that are apart change places. -/
theorem swap {i j : Nat} {o o' : SO} {r r' : Rc} {st : St} (ha : Apart o r o' r') (h1 : Can P E i o st r) (h2 : Can P E j o' (st.app o.dst r) r') :
    Can P E j o' st r' ∧ Can P E i o (st.app o'.dst r') r ∧ (st.app o.dst r).app o'.dst r' = (st.app o'.dst r').app o.dst r := by
  have envs : ∀ (d : Option Nat) (x : AV) (env : Nat → AV) (k : Nat), (∀ q, d = some q → k ≠ q) → putE env d x k = env k := by
    intro d x env k h
    cases d with
    | none => rfl
    | some q => exact upd_ne _ _ (h q rfl)
  refine ⟨h2.local (fun k hk => ?_) (fun q hq => ?_), h1.local (fun k hk => ?_) (fun q hq => ?_), ?_⟩
  · exact (envs o.dst r.x st.env k fun d hd => (ha.d1 d hd).1 k hk).symm
  · refine (over_other fun hk => ?_).symm
    exact (ha.w1 q hk).1 hq
  · exact envs o'.dst r'.x st.env k fun d hd => ha.d2 d hd k hk
  · exact over_other fun hk => ha.w2 q hk hq
  · unfold St.app
    simp only
    congr 1
    · cases ho : o.dst with
      | none => simp [putE]
      | some d =>
        cases ho' : o'.dst with
        | none => simp [putE]
        | some d' =>
          have hne : d' ≠ d := fun e => (ha.d1 d ho).2 (by rw [ho', e])
          simp only [putE]
          funext k
          unfold upd
          by_cases hk : k = d
          · by_cases hk' : k = d'
            · exact absurd (hk'.symm.trans hk) hne
            · simp [hk, Ne.symm hne]
          · simp [hk]
    · exact (over_comm fun q hq hk => (ha.w1 q hk).2 hq)

/-- Steps one behind the other. -/
def Runs (P : Program) (E : Env) : List (Nat × SO × Rc) → St → St → Prop
  | [], st, st' => st' = st
  | (i, o, r) :: l, st, st' => Can P E i o st r ∧ Runs P E l (st.app o.dst r) st'

theorem front {i : Nat} {o : SO} {r : Rc} {b : List (Nat × SO × Rc)} : ∀ {a : List (Nat × SO × Rc)} {st st' : St}, (∀ p ∈ a, Apart p.2.1 p.2.2 o r) → Runs P E (a ++ (i, o, r) :: b) st st' → Runs P E ((i, o, r) :: (a ++ b)) st st'
  | [], st, st', _, h => h
  | (j, o', r') :: a, st, st', ha, h => by
    simp only [List.cons_append, Runs] at h ⊢
    have ih := front (a := a) (fun p hp => ha p (by simp [hp])) h.2
    simp only [Runs] at ih
    obtain ⟨s1, s2, s3⟩ := swap (ha (j, o', r') (by simp)) h.1 ih.1
    refine ⟨s1, s2, ?_⟩
    rw [← s3]; exact ih.2

/-- The machine does what a step says. -/
theorem can_sim (hG : GOK E G) {st : St} {n : Nat} {a : Act} {w : World} {A : Nat → Prop} {φ : Nat → Nat} (h : RS E F st.sto w A φ) (r : RE ds st n a w A φ) {ops : Array Oper} {Q : Exit → Act → World → Prop} {K : Act → World → Prop} {i id : Nat} {o : Oper} {so : SO} {rc : Rc}
    (ho : ops[i]? = some o) (hd : so.dst = o.dst) (hdn : ∀ d, o.dst = some d → d < n)
    (hg : so.guard = match o.guard with | none => none | some (j, want) => ((ops[j]?).bind (·.dst)).map fun t => (t, want))
    (hgj : ∀ j want, o.guard = some (j, want) → ((ops[j]?).bind (·.dst)).isSome = true)
    (hk : match so.k with
      | .op x => x = .bad ∨ slimOp P G o.op = some x
      | .call f as => ∃ xf xs ts, o.op = .call ⟨.value xf, xs, ts⟩ ∧ slimV G xf = some f ∧ slimVs G xs.toList = some as)
    (hc : Can P E id so st rc)
    (hK : ∀ a' w' A' φ', RS E F (st.app so.dst rc).sto w' A' φ' → RE ds (st.app so.dst rc) n a' w' A' φ' → K a' w') {ro : Option Nat} {nn : Nat} : wpOpIn (fnc ro) nn P ops Q i K a w := by
  have hput : ∀ {v : Value} {w' : World} {A' : Nat → Prop} {φ' : Nat → Nat}, Did E F st.sto A φ w rc.x v (over rc.wr st.sto) w' A' φ' → K (a.put o.dst v) w' := by
    intro v w' A' φ' d
    refine hK _ _ A' φ' d.rs ?_
    unfold St.app
    rw [hd]
    cases hdst : o.dst with
    | none => exact r.put_none d.go d.ph d.mo
    | some q => exact r.put (hdn q hdst) d.go d.ph d.mo d.ca d.nd
  have hskip : rc = ⟨.tp [], [], []⟩ → K (a.put o.dst undef) w := by
    intro e
    refine hput (v := undef) (w' := w) (A' := A) (φ' := φ) ?_
    rw [e]
    exact Did.same h (by simp [CA, CAs, undef]) (by simp [AV.ids, idsL])
  -- what the guard says
  have hw : wantedA so.guard st.env = some (Region.wanted o (yielded ops a.tmps)) ∨ wantedA so.guard st.env = none := by
    rw [hg]
    cases hgo : o.guard with
    | none => simp [wantedA, Region.wanted, hgo]
    | some p =>
      obtain ⟨j, want⟩ := p
      obtain ⟨t, ht⟩ := Option.isSome_iff_exists.1 (hgj j want hgo)
      simp only [ht, Option.map_some, wantedA]
      split
      · rename_i b hb
        left
        have hv := r.val t
        rw [hb] at hv
        have hv := (ca_v hv).1
        have hget : a.tmps[t]? = some (.bool b) := by
          rw [Array.getD_eq_getD_getElem?] at hv
          cases hq : a.tmps[t]? with
          | none => rw [hq] at hv; simp [undef] at hv
          | some u => rw [hq] at hv; simp at hv; rw [hv]
        simp [Region.wanted, hgo, yielded, ht, hget]
      · rename_i hb
        left
        have hv := r.val t
        rw [hb] at hv
        simp only [CA, CAs] at hv
        obtain ⟨ys, hv, hy⟩ := hv
        rw [Array.getD_eq_getD_getElem?] at hv
        cases hq : a.tmps[t]? with
        | none => simp [Region.wanted, hgo, yielded, ht, hq]
        | some u => rw [hq] at hv; simp at hv; simp [Region.wanted, hgo, yielded, ht, hq, hv]
      · exact Or.inr rfl
  unfold wpOpIn
  simp only [ho]
  unfold Can at hc
  rcases hw with hw | hw
  case inr => rw [hw] at hc; exact hc.elim
  rw [hw] at hc
  cases hb : Region.wanted o (yielded ops a.tmps) with
  | false =>
    rw [hb] at hc
    simp only [Bool.false_eq_true, if_false]
    exact ⟨fun _ _ => trivial, hskip hc⟩
  | true =>
    rw [hb] at hc
    simp only at hc
    simp only [if_true]
    refine ⟨fun _ _ => trivial, ?_⟩
    cases hkk : so.k with
    | op x =>
      rw [hkk] at hc hk
      simp only [CanK] at hc hk
      have hran := sim_op hG h r (hk.resolve_left fun e => by rw [e] at hc; simp [core] at hc) hc.1
      obtain ⟨nx, v, w', A', φ', hrun, hnx, hdid⟩ := hran
      rw [applyWr_over (core_nodup hc.1)] at hdid
      rw [Oper.semAt_eq _ _ _ (fun c e => by
        have hk' := hk.resolve_left fun e => by rw [e] at hc; simp [core] at hc
        rw [e] at hk'; simp [slimOp] at hk'), hrun]
      rcases hnx with rfl | ⟨rfl, rfl⟩
      · exact hput hdid
      · exact hput hdid
    | call f as =>
      rw [hkk] at hc hk
      simp only [CanK] at hc
      obtain ⟨xf, xs, ts, hop, hf, has⟩ := hk
      obtain ⟨g, first, caps, hfe, ins, outs, sn, keep, ys, hcall, hwr, hrd⟩ := hc
      have ef := (ev_ok hG h r hf).1
      rw [hfe] at ef
      simp only [CA] at ef
      obtain ⟨us, vs, hfv, hfirst, hcaps⟩ := ef
      have eas := (evs_ok hG h r has).1
      have hargs : CAs A φ w (first ++ as.map (·.ev st.env) ++ caps) (us ++ xs.map a.eval ++ vs).toList := by
        simp only [Array.toList_append, Array.toList_map]
        exact (hfirst.append eas).append hcaps
      have hruns := call_ok h hcall hargs
      have hexec : (execOp a.eval o).run P w = (callFunc g (us ++ xs.map a.eval ++ vs)).run P w := by
        simp only [execOp, hop, resolve, Sem.run_bind, Sem.run_pure, Result.andThen_ok, hfv, Deferred.ofValue, invoke]
      have haft : after st.sto outs sn keep = over rc.wr st.sto := by
        rw [hwr, over_append]
        have e0 : over [] st.sto = st.sto := by funext k; simp [over, stoOf]
        unfold after
        cases keep with
        | false => rfl
        | true => simp only [if_true, e0]
      rw [Oper.semAt_eq _ _ _ (fun c e => by rw [hop] at e; cases e), hexec]
      rcases hruns with ⟨h1, h2⟩ | ⟨v, w', h1, A', φ', hdid⟩
      · rw [h1]
        refine ⟨fun h => by simp [fnc, Fence.wide] at h, CallsIn.mono (calls_fnc ro _ h2) ?_⟩
        rintro e w' ⟨v, he, A', φ', hdid⟩
        subst he
        rw [haft] at hdid
        exact hput hdid
      · rw [h1]
        rw [haft] at hdid
        exact hput hdid

end
end Go.Sx

namespace Go.Sx

def slimG (ops : Array Oper) (g : Option (Nat × Bool)) : Option (Option (Nat × Bool)) :=
  match g with
  | none => some none
  | some (j, want) => match (ops[j]?).bind (·.dst) with
    | some t => some (some (t, want))
    | none => none

def slimK (P : Program) (G : Nat → Option (List T)) : Op → Option SK
  | .call ⟨.value f, args, _⟩ => match slimV G f, slimVs G args.toList with
    | some f, some as => some (.call f as)
    | _, _ => none
  | op => some (.op ((slimOp P G op).getD .bad))

def dstOk (n : Nat) : Option Nat → Bool
  | some d => d < n
  | none => true

def slimO1 (P : Program) (G : Nat → Option (List T)) (n : Nat) (ops : Array Oper) (o : Oper) : Option SO :=
  match slimG ops o.guard, slimK P G o.op with
  | some g, some k => if dstOk n o.dst then some ⟨o.dst, k, g⟩ else none
  | _, _ => none

def slimAll (P : Program) (G : Nat → Option (List T)) (n : Nat) (ops : Array Oper) : List Oper → Option (List SO)
  | [] => some []
  | o :: l => match slimO1 P G n ops o, slimAll P G n ops l with
    | some a, some b => some (a :: b)
    | _, _ => none

/-- Which operations stand ahead of which: bits. -/
def befStep (acc : List Nat) (o : Oper) : Nat := o.after.toList.foldl (fun s e => if Region.binds .any e then s ||| 2 ^ e.on ||| acc.getD e.on 0 else s) 0

def befL (l : List Oper) : List Nat := l.foldl (fun acc o => acc ++ [befStep acc o]) []

def edgesOk (l : List Oper) : Bool := l.zipIdx.all fun p => p.1.after.toList.all fun e => !Region.binds .any e || decide (e.on < p.2)

def hasSlot (l : List SV) (d : Nat) : Bool := l.any fun
  | .tm k => k == d
  | .c _ => false

def slotApart (o o' : SO) : Bool :=
  (match o.dst with
   | some d => !hasSlot o'.svs d && o'.dst != some d
   | none => true) &&
  (match o'.dst with
   | some d => !hasSlot o.svs d
   | none => true)

/-- No object is looked at or written. -/
def SK.quiet : SK → Bool
  | .op (.alloc _) | .op (.box _) | .op (.bsl ..) | .op (.mksl ..) | .op (.load ..) | .op (.store ..) | .op (.app ..) | .op (.cpy ..) | .op (.clr ..) => false
  | .op _ => true
  | .call .. => false

def SK.reads : SK → Bool
  | .op (.load ..) => true
  | _ => false

/-- The pairs of which something is to be shown. -/
def pairsOf (bef : List Nat) (l : List SO) : List (Nat × Nat) :=
  (l.zipIdx).flatMap fun p => ((l.take p.2).zipIdx).filterMap fun q =>
    if (bef.getD p.2 0).testBit q.2 || p.1.k.quiet || q.1.k.quiet || (p.1.k.reads && q.1.k.reads) then none else some (q.2, p.2)

def slotsOk (bef : List Nat) (l : List SO) : Bool :=
  (l.zipIdx).all fun p => ((l.take p.2).zipIdx).all fun q => (bef.getD p.2 0).testBit q.2 || slotApart q.1 p.1

def slimReg (P : Program) (G : Nat → Option (List T)) (n : Nat) (ops : Array Oper) (draw : Bool) : Option (List SO × List (Nat × Nat)) :=
  match slimAll P G n ops ops.toList with
  | some l => if draw then (if edgesOk ops.toList && slotsOk (befL ops.toList) l then some (l, pairsOf (befL ops.toList) l) else none) else some (l, [])
  | none => none

/-- Two steps' objects are apart. -/
def apartR (a b : Rc) : Bool := (keysOf a.wr).all (fun i => !b.rd.contains i && !(keysOf b.wr).contains i) && (keysOf b.wr).all fun i => !a.rd.contains i

section
variable {P : Program} {E : Env} {G : Nat → Option (List T)} {F : Frm} {ds : List Deferred}

theorem slimAll_get {n : Nat} {ops : Array Oper} : ∀ {l : List Oper} {sos : List SO}, slimAll P G n ops l = some sos → sos.length = l.length ∧ ∀ (i : Nat) (o : Oper), l[i]? = some o → ∃ so, sos[i]? = some so ∧ slimO1 P G n ops o = some so
  | [], sos, h => by simp [slimAll] at h; subst h; simp
  | o :: l, sos, h => by
    simp only [slimAll] at h
    split at h
    · rename_i a b h1 h2
      injection h with h; subst h
      obtain ⟨g1, g2⟩ := slimAll_get h2
      refine ⟨by simp [g1], fun i o' hi => ?_⟩
      cases i with
      | zero => simp at hi; subst hi; exact ⟨a, rfl, h1⟩
      | succ i => simpa using g2 i o' (by simpa using hi)
    · simp at h

theorem slimO1_facts {n : Nat} {ops : Array Oper} {o : Oper} {so : SO} (h : slimO1 P G n ops o = some so) :
    so.dst = o.dst ∧ (∀ d, o.dst = some d → d < n) ∧ (so.guard = match o.guard with | none => none | some (j, want) => ((ops[j]?).bind (·.dst)).map fun t => (t, want)) ∧
    (∀ j want, o.guard = some (j, want) → ((ops[j]?).bind (·.dst)).isSome = true) ∧
    (match so.k with
      | .op x => x = .bad ∨ slimOp P G o.op = some x
      | .call f as => ∃ xf xs ts, o.op = .call ⟨.value xf, xs, ts⟩ ∧ slimV G xf = some f ∧ slimVs G xs.toList = some as) := by
  unfold slimO1 at h
  split at h
  · rename_i g k hg hk
    split at h
    · rename_i hd
      injection h with h; subst h
      refine ⟨rfl, fun d hdd => by rw [hdd] at hd; simpa [dstOk] using hd, ?_, ?_, ?_⟩
      · unfold slimG at hg
        split at hg
        · rename_i hgo; injection hg with hg; subst hg; simp [hgo]
        · rename_i j want hgo
          split at hg
          · rename_i t ht; injection hg with hg; subst hg; simp [hgo, ht]
          · simp at hg
      · intro j want hgo
        unfold slimG at hg
        rw [hgo] at hg
        simp only at hg
        split at hg
        · rename_i t ht; simp [ht]
        · simp at hg
      · unfold slimK at hk
        split at hk
        · rename_i f args ts hop
          split at hk
          · rename_i f' as' hf has
            injection hk with hk; subst hk
            exact ⟨f, args, ts, hop, hf, has⟩
          · simp at hk
        · injection hk with hk; subst hk
          cases hx : slimOp P G o.op with
          | none => exact Or.inl rfl
          | some x => exact Or.inr rfl
    · simp at h
  · simp at h

theorem quiet_can {id : Nat} {o : SO} {st : St} {r : Rc} (hq : o.k.quiet = true) (h : Can P E id o st r) : r.rd = [] ∧ r.wr = [] := by
  unfold Can at h
  split at h
  · subst h; exact ⟨rfl, rfl⟩
  · unfold CanK at h
    cases hk : o.k with
    | call f as => rw [hk] at hq; simp [SK.quiet] at hq
    | op x =>
      rw [hk] at h hq
      simp only at h
      obtain ⟨h1, h2⟩ := h
      cases x <;> simp [SK.quiet] at hq <;> simp only [rds] at h2 <;> refine ⟨h2, ?_⟩ <;> simp only [core] at h1
      all_goals
        repeat' split at h1
        all_goals first
          | (simp only [Option.some.injEq, Prod.mk.injEq] at h1; exact h1.2.symm)
          | (simp only [Option.map_eq_some_iff] at h1; obtain ⟨_, _, h1⟩ := h1; injection h1 with _ h1; exact h1.symm)
          | simp at h1
  · exact h.elim

theorem reads_can {id : Nat} {o : SO} {st : St} {r : Rc} (hq : o.k.reads = true) (h : Can P E id o st r) : r.wr = [] := by
  unfold Can at h
  split at h
  · subst h; rfl
  · unfold CanK at h
    cases hk : o.k with
    | call f as => rw [hk] at hq; simp [SK.reads] at hq
    | op x =>
      rw [hk] at h hq
      simp only at h
      obtain ⟨h1, h2⟩ := h
      cases x <;> simp [SK.reads] at hq
      simp only [core] at h1
      repeat' split at h1
      all_goals first
        | (simp only [Option.some.injEq, Prod.mk.injEq] at h1; exact h1.2.symm)
        | (simp only [Option.map_eq_some_iff] at h1; obtain ⟨_, _, h1⟩ := h1; injection h1 with _ h1; exact h1.symm)
        | simp at h1
  · exact h.elim

theorem hasSlot_spec {l : List SV} {d : Nat} (h : hasSlot l d = false) : ∀ k, SV.tm k ∈ l → k ≠ d := by
  intro k hk e
  subst e
  have : hasSlot l k = true := by
    unfold hasSlot
    rw [List.any_eq_true]
    exact ⟨.tm k, hk, by simp⟩
  rw [this] at h; simp at h

theorem apart_of {o o' : SO} {r r' : Rc} (h1 : slotApart o o' = true) (h2 : apartR r r' = true) : Apart o r o' r' := by
  unfold slotApart at h1
  unfold apartR at h2
  simp only [Bool.and_eq_true, List.all_eq_true, Bool.not_eq_true', List.contains_eq_mem, decide_eq_false_iff_not] at h1 h2
  refine ⟨fun d hd => ?_, fun d hd => ?_, fun i hi => h2.1 i hi, fun i hi => h2.2 i hi⟩
  · have := h1.1
    rw [hd] at this
    simp only [Bool.and_eq_true, Bool.not_eq_true', bne_iff_ne, ne_eq] at this
    exact ⟨hasSlot_spec this.1, this.2⟩
  · have := h1.2
    rw [hd] at this
    simp only [Bool.not_eq_true'] at this
    exact hasSlot_spec this

/-- The steps of a region in the text's order, each with its own number. -/
def steps (base : Nat) : List SO → List Rc → List (Nat × SO × Rc)
  | o :: l, r :: rs => (base, o, r) :: steps (base + 1) l rs
  | _, _ => []

theorem steps_get : ∀ {base : Nat} {l : List SO} {rs : List Rc} {i : Nat} {o : SO} {r : Rc}, l[i]? = some o → rs[i]? = some r → (steps base l rs)[i]? = some (base + i, o, r)
  | _, [], _, _, _, _, h, _ => by simp at h
  | _, _ :: _, [], _, _, _, _, h => by simp at h
  | base, o :: l, r :: rs, 0, o', r', h1, h2 => by simp at h1 h2; subst h1; subst h2; simp [steps]
  | base, o :: l, r :: rs, i + 1, o', r', h1, h2 => by
    have := steps_get (base := base + 1) (l := l) (rs := rs) (i := i) (o := o') (r := r') (by simpa using h1) (by simpa using h2)
    simp only [steps, List.getElem?_cons_succ, this]
    rw [show base + 1 + i = base + (i + 1) from by omega]

theorem steps_len : ∀ {base : Nat} {l : List SO} {rs : List Rc}, rs.length = l.length → (steps base l rs).length = l.length
  | _, [], [], _ => rfl
  | _, [], _ :: _, h => by simp at h
  | _, _ :: _, [], h => by simp at h
  | base, o :: l, r :: rs, h => by simp only [steps, List.length_cons]; rw [steps_len (by simpa using h)]

theorem region_text {ro : Option Nat} {nn : Nat} (hG : GOK E G) {st' : St} {n : Nat} {ops : Array Oper} {Q : Exit → Act → World → Prop} {base : Nat} (hQ : ∀ a' w' A' φ', RS E F st'.sto w' A' φ' → RE ds st' n a' w' A' φ' → Q .normal a' w')
    : ∀ (k : Nat) (sos : List SO) (rs : List Rc) (st : St) (a : Act) (w : World) (A : Nat → Prop) (φ : Nat → Nat), (∀ i o, sos[i]? = some o → ∃ x, ops[k + i]? = some x ∧ slimO1 P G n ops x = some o) → rs.length = sos.length →
      RS E F st.sto w A φ → RE ds st n a w A φ → Runs P E (steps (base + k) sos rs) st st' → wpOpsIn (fnc ro) nn P ops Q (List.range' k sos.length) a w
  | k, [], [], st, a, w, A, φ, _, _, h, r, hr => by
    simp only [steps, Runs] at hr
    subst hr
    simp only [List.length_nil, List.range'_zero, wpOpsIn]
    exact hQ a w A φ h r
  | k, [], _ :: _, _, _, _, _, _, _, hl, _, _, _ => by simp at hl
  | k, _ :: _, [], _, _, _, _, _, _, hl, _, _, _ => by simp at hl
  | k, o :: sos, rc :: rs, st, a, w, A, φ, ho, hl, h, r, hr => by
    simp only [steps, Runs] at hr
    obtain ⟨x, hx, hsl⟩ := ho 0 o rfl
    rw [Nat.add_zero] at hx
    obtain ⟨f1, f2, f3, f4, f5⟩ := slimO1_facts hsl
    rw [List.length_cons, List.range'_succ, wpOpsIn_cons]
    refine can_sim hG h r hx f1 f2 f3 f4 f5 hr.1 fun a' w' A' φ' h' r' => ?_
    refine region_text hG hQ (k + 1) sos rs _ a' w' A' φ' (fun i o' hi => ?_) (by simpa using hl) h' r' hr.2
    obtain ⟨y, hy, hys⟩ := ho (i + 1) o' (by simpa using hi)
    exact ⟨y, by rw [show k + 1 + i = k + (i + 1) from by omega]; exact hy, hys⟩

end
end Go.Sx

namespace Go.Sx

def befF (acc : List Nat) (l : List Oper) : List Nat := l.foldl (fun acc o => acc ++ [befStep acc o]) acc

theorem befF_len : ∀ (l : List Oper) (acc : List Nat), (befF acc l).length = acc.length + l.length
  | [], acc => by simp [befF]
  | o :: l, acc => by
    have := befF_len l (acc ++ [befStep acc o])
    simp only [befF, List.foldl_cons] at this ⊢
    rw [this]; simp; omega

theorem befF_pre : ∀ (l : List Oper) (acc : List Nat) (i : Nat), i < acc.length → (befF acc l)[i]? = acc[i]?
  | [], acc, i, _ => by simp [befF]
  | o :: l, acc, i, h => by
    have := befF_pre l (acc ++ [befStep acc o]) i (by simp; omega)
    simp only [befF, List.foldl_cons] at this ⊢
    rw [this, List.getElem?_append_left h]

theorem befF_split (l : List Oper) (acc : List Nat) (j : Nat) : befF acc l = befF (befF acc (l.take j)) (l.drop j) := by
  unfold befF
  rw [← List.foldl_append, List.take_append_drop]

theorem befF_get (l : List Oper) (acc : List Nat) (j : Nat) (o : Oper) (h : l[j]? = some o) : (befF acc l)[acc.length + j]? = some (befStep (befF acc (l.take j)) o) := by
  have hj := (List.getElem?_eq_some_iff.1 h).1
  rw [befF_split l acc j, List.drop_eq_getElem_cons hj]
  have hl : (befF acc (l.take j)).length = acc.length + j := by rw [befF_len]; simp; omega
  have ho : l[j] = o := (List.getElem?_eq_some_iff.1 h).2
  simp only [befF, List.foldl_cons]
  have := befF_pre (l.drop (j + 1)) (befF acc (l.take j) ++ [befStep (befF acc (l.take j)) l[j]]) (acc.length + j) (by simp [hl])
  simp only [befF] at this hl ⊢
  rw [this, List.getElem?_append_right (by omega)]
  simp [hl, ho]

theorem bits_fold (acc : List Nat) (x : Nat) : ∀ (es : List Edge) (s : Nat), (es.foldl (fun s e => if Region.binds .any e then s ||| 2 ^ e.on ||| acc.getD e.on 0 else s) s).testBit x = true →
    s.testBit x = true ∨ ∃ e ∈ es, Region.binds .any e = true ∧ (x = e.on ∨ (acc.getD e.on 0).testBit x = true)
  | [], s, h => Or.inl h
  | e :: es, s, h => by
    simp only [List.foldl_cons] at h
    rcases bits_fold acc x es _ h with h | ⟨e', he, h⟩
    · split at h
      · rename_i hb
        simp only [Nat.testBit_or, Bool.or_eq_true, Nat.testBit_two_pow, decide_eq_true_eq] at h
        rcases h with (h | h) | h
        · exact Or.inl h
        · exact Or.inr ⟨e, by simp, hb, Or.inl h.symm⟩
        · exact Or.inr ⟨e, by simp, hb, Or.inr h⟩
      · exact Or.inl h
    · exact Or.inr ⟨e', by simp [he], h⟩

theorem bef_spec {l : List Oper} {j x : Nat} {o : Oper} (h : l[j]? = some o) (hb : ((befL l).getD j 0).testBit x = true) :
    ∃ e ∈ o.after.toList, Region.binds .any e = true ∧ (x = e.on ∨ (e.on < j ∧ ((befL l).getD e.on 0).testBit x = true)) := by
  have hg := befF_get l [] j o h
  simp only [List.length_nil, Nat.zero_add] at hg
  have e0 : befL l = befF [] l := rfl
  rw [e0, List.getD_eq_getElem?_getD, hg] at hb
  simp only [Option.getD_some, befStep] at hb
  rcases bits_fold _ x _ _ hb with hb | ⟨e, he, hbi, hx⟩
  · simp at hb
  · refine ⟨e, he, hbi, hx.imp (fun h => h) fun hx => ?_⟩
    have hjl := (List.getElem?_eq_some_iff.1 h).1
    have hlen : (befF [] (l.take j)).length = j := by rw [befF_len]; simp; omega
    by_cases hlt : e.on < j
    · refine ⟨hlt, ?_⟩
      rw [List.getD_eq_getElem?_getD] at hx
      rw [e0, List.getD_eq_getElem?_getD, befF_split l [] j, befF_pre _ _ _ (by omega)]
      exact hx
    · rw [List.getD_eq_getElem?_getD, List.getElem?_eq_none (by omega)] at hx
      simp at hx

/-- What is closed under the edges holds all that stands ahead. -/
theorem closed_bef {ops : Array Oper} {listed : Array Bool} (hcl : ∀ i o, ops[i]? = some o → listed.getD i true = true → ∀ e ∈ o.after, Region.binds .any e = true → listed.getD e.on false = true) :
    ∀ (j : Nat) (o : Oper), ops[j]? = some o → (∀ e ∈ o.after, Region.binds .any e = true → listed.getD e.on false = true) → ∀ x, ((befL ops.toList).getD j 0).testBit x = true → listed.getD x false = true := by
  intro j
  induction j using Nat.strongRecOn with
  | _ j ih =>
    intro o ho hd x hx
    obtain ⟨e, he, hb, hx⟩ := bef_spec (l := ops.toList) (by simpa using ho) hx
    have he' : e ∈ o.after := Array.mem_toList_iff.1 he
    have hl := hd e he' hb
    rcases hx with rfl | ⟨hlt, hx⟩
    · exact hl
    · cases hoe : ops[e.on]? with
      | none =>
        have : (befL ops.toList).getD e.on 0 = 0 := by
          have hn : ops.size ≤ e.on := by
            rcases Nat.lt_or_ge e.on ops.size with h' | h'
            · simp [h'] at hoe
            · exact h'
          have hl : (befL ops.toList).length = ops.size := by
            have := befF_len ops.toList []
            simpa [befL, befF] using this
          rw [List.getD_eq_getElem?_getD, List.getElem?_eq_none (by omega)]; rfl
        rw [this] at hx; simp at hx
      | some oe =>
        refine ih e.on hlt oe hoe (hcl e.on oe hoe ?_) x hx
        rw [Array.getD_eq_getD_getElem?] at hl ⊢
        cases hq : listed[e.on]? with
        | none => rfl
        | some b => rw [hq] at hl; simpa using hl

section
variable {P : Program} {E : Env} {G : Nat → Option (List T)} {F : Frm} {ds : List Deferred}

theorem region_draw {ro : Option Nat} {nn : Nat} (hG : GOK E G) {st' : St} {n : Nat} {ops : Array Oper} {Q : Exit → Act → World → Prop} {base : Nat} (hQ : ∀ a' w' A' φ', RS E F st'.sto w' A' φ' → RE ds st' n a' w' A' φ' → Q .normal a' w')
    (hedge : ∀ i o, ops[i]? = some o → ∀ e ∈ o.after, Region.binds .any e = true → e.on < i) :
    ∀ (fuel : Nat) (L : List (Nat × SO × Rc)) (listed : Array Bool) (st : St) (a : Act) (w : World) (A : Nat → Prop) (φ : Nat → Nat), L.length = fuel → listed.size = ops.size →
      (∀ p ∈ L, ∃ i x, p.1 = base + i ∧ ops[i]? = some x ∧ slimO1 P G n ops x = some p.2.1) →
      (∀ i, listed.getD i true = false ↔ ∃ p ∈ L, p.1 = base + i) →
      L.Pairwise (fun p q => p.1 < q.1 ∧ (((befL ops.toList).getD (q.1 - base) 0).testBit (p.1 - base) = true ∨ Apart p.2.1 p.2.2 q.2.1 q.2.2)) →
      (∀ i o, ops[i]? = some o → listed.getD i true = true → ∀ e ∈ o.after, Region.binds .any e = true → listed.getD e.on false = true) →
      RS E F st.sto w A φ → RE ds st n a w A φ → Runs P E L st st' → wpAnyIn (fnc ro) nn P .any ops Q fuel listed a w
  | 0, L, listed, st, a, w, A, φ, hlen, hsz, hL, hmem, hpw, hcl, h, r, hr => by
    have hL0 : L = [] := List.eq_nil_of_length_eq_zero hlen
    subst hL0
    simp only [Runs] at hr; subst hr
    refine ⟨?_, hQ a w A φ h r⟩
    cases hrd : Region.ready .any ops listed with
    | nil => rfl
    | cons i _ =>
      have hi : i ∈ Region.ready .any ops listed := by rw [hrd]; simp
      obtain ⟨p, hp, _⟩ := (hmem i).1 (mem_ready.1 hi).1
      simp at hp
  | fuel + 1, L, listed, st, a, w, A, φ, hlen, hsz, hL, hmem, hpw, hcl, h, r, hr => by
    refine ⟨fun hnil => ?_, fun i hi => ?_⟩
    · -- the first that is left is ready
      cases L with
      | nil => simp at hlen
      | cons p L =>
        obtain ⟨i, x, hpi, hx, hs⟩ := hL p (by simp)
        have hun := (hmem i).2 ⟨p, by simp, hpi⟩
        have : i ∈ Region.ready .any ops listed := by
          refine mem_ready.2 ⟨hun, x, hx, fun e he hb => ?_⟩
          have hlt := hedge i x hx e he hb
          have hxi := (Array.getElem?_eq_some_iff.1 hx).1
          cases hq : listed.getD e.on true with
          | true =>
            rw [Array.getD_eq_getD_getElem?] at hq ⊢
            rw [Array.getElem?_eq_getElem (by omega)] at hq ⊢
            simpa using hq
          | false =>
            obtain ⟨q, hq1, hq2⟩ := (hmem e.on).1 hq
            rcases List.mem_cons.1 hq1 with rfl | hq1
            · omega
            · have := (List.pairwise_cons.1 hpw).1 q hq1
              omega
        rw [hnil] at this; simp at this
    · obtain ⟨hun, x, hx, hedges⟩ := mem_ready.1 hi
      obtain ⟨p, hp, hpi⟩ := (hmem i).1 hun
      obtain ⟨j, x', hpj, hx', hs⟩ := hL p hp
      have hij : j = i := by omega
      subst hij
      rw [hx] at hx'; injection hx' with hx'; subst hx'
      obtain ⟨La, Lb, hsplit⟩ := List.append_of_mem hp
      subst hsplit
      have hap : ∀ q ∈ La, Apart q.2.1 q.2.2 p.2.1 p.2.2 := fun q hq => by
        have hpq := (List.pairwise_append.1 hpw).2.2 q hq p (by simp)
        rcases hpq.2 with hb | hb
        · exfalso
          have := closed_bef hcl j x hx hedges (q.1 - base) (by rw [show p.1 - base = j from by omega] at hb; exact hb)
          obtain ⟨jq, xq, hq1, hxq, _⟩ := hL q (by simp [hq])
          have hunq := (hmem jq).2 ⟨q, by simp [hq], hq1⟩
          rw [show q.1 - base = jq from by omega] at this
          rw [Array.getD_eq_getD_getElem?] at this hunq
          cases hlq : listed[jq]? with
          | none => rw [hlq] at hunq; simp at hunq
          | some b => rw [hlq] at this hunq; simp at this hunq; rw [this] at hunq; simp at hunq
        · exact hb
      obtain ⟨pi, po, pr⟩ := p
      have hr' := front hap hr
      simp only [Runs] at hr'
      obtain ⟨f1, f2, f3, f4, f5⟩ := slimO1_facts hs
      refine can_sim hG h r hx f1 f2 f3 f4 f5 hr'.1 fun a' w' A' φ' h' r' => ?_
      have hsize : j < listed.size := by rw [hsz]; exact (Array.getElem?_eq_some_iff.1 hx).1
      have hlst : ∀ k (d : Bool), (listed.setIfInBounds j true).getD k d = if k = j then true else listed.getD k d := fun k d => by
        by_cases hk : k = j
        · subst hk; simp [hsize]
        · rw [if_neg hk]; exact getD_set_ne d (Ne.symm hk)
      refine region_draw hG hQ hedge fuel (La ++ Lb) _ _ a' w' A' φ' (by simp at hlen ⊢; omega) (by simp [hsz]) (fun q hq => hL q ?_) (fun k => ?_) ?_ (fun k o ho hk e he hb => ?_) h' r' hr'.2
      · rcases List.mem_append.1 hq with hq | hq <;> simp [hq]
      · rw [hlst]
        have hnot : ∀ q ∈ La ++ Lb, q.1 ≠ base + j := fun q hq e => by
          rcases List.mem_append.1 hq with hq | hq
          · have := (List.pairwise_append.1 hpw).2.2 q hq _ (by simp : (pi, po, pr) ∈ (pi, po, pr) :: Lb)
            simp only at this hpi; omega
          · have := (List.pairwise_cons.1 (List.pairwise_append.1 hpw).2.1).1 q hq
            simp only at this hpi; omega
        by_cases hk : k = j
        · subst hk
          simp only [if_true, Bool.true_eq_false, false_iff]
          rintro ⟨q, hq, hqe⟩
          exact hnot q hq hqe
        · rw [if_neg hk, hmem k]
          constructor
          · rintro ⟨q, hq, hqe⟩
            rcases List.mem_append.1 hq with hq | hq
            · exact ⟨q, by simp [hq], hqe⟩
            · rcases List.mem_cons.1 hq with rfl | hq
              · simp only at hpi hqe; omega
              · exact ⟨q, by simp [hq], hqe⟩
          · rintro ⟨q, hq, hqe⟩
            rcases List.mem_append.1 hq with hq | hq
            · exact ⟨q, by simp [hq], hqe⟩
            · exact ⟨q, by simp [hq], hqe⟩
      · rw [List.pairwise_append] at hpw ⊢
        exact ⟨hpw.1, (List.pairwise_cons.1 hpw.2.1).2, fun q hq q' hq' => hpw.2.2 q hq q' (by simp [hq'])⟩
      · rw [hlst]
        by_cases hk2 : k = j
        · subst hk2
          rw [hx] at ho; injection ho with ho; subst ho
          split
          · rfl
          · exact hedges e he hb
        · rw [hlst, if_neg hk2] at hk
          split
          · rfl
          · exact hcl k o ho hk e he hb

/-- A region, whether its order is drawn or not. -/
theorem region_ok {ro : Option Nat} {nn : Nat} (hm : P.follows .mixedOrders = true) (hG : GOK E G) {st st' : St} {n : Nat} {ops : Array Oper} {draw : Bool} {sos : List SO} {prs : List (Nat × Nat)} (hsl : slimReg P G n ops draw = some (sos, prs)) {Q : Exit → Act → World → Prop} {base id : Nat}
    (hQ : ∀ a' w' A' φ', RS E F st'.sto w' A' φ' → RE ds st' n a' w' A' φ' → Q .normal a' w') {rs : List Rc} (hrs : rs.length = sos.length) (hruns : Runs P E (steps base sos rs) st st')
    (hprs : ∀ p ∈ prs, ∃ a b, rs[p.1]? = some a ∧ rs[p.2]? = some b ∧ apartR a b = true)
    {a : Act} {w : World} {A : Nat → Prop} {φ : Nat → Nat} (h : RS E F st.sto w A φ) (r : RE ds st n a w A φ) : (Code.region id ops draw).wpIn (fnc ro) nn P Q a w := by
  unfold slimReg at hsl
  split at hsl
  · rename_i l hall
    have hget := slimAll_get hall
    have hback : ∀ (i : Nat) (o : SO), l[i]? = some o → ∃ x, ops[i]? = some x ∧ slimO1 P G n ops x = some o := fun i o ho => by
      have hi : i < ops.toList.length := by rw [← hget.1]; exact (List.getElem?_eq_some_iff.1 ho).1
      obtain ⟨so, hso, hs⟩ := hget.2 i _ (List.getElem?_eq_getElem hi)
      rw [ho] at hso; injection hso with hso; subst hso
      exact ⟨ops.toList[i], by simp at hi ⊢, hs⟩
    have hsize : l.length = ops.size := by rw [hget.1]; simp
    cases draw with
    | false =>
      simp only [Bool.false_eq_true, if_false, Option.some.injEq, Prod.mk.injEq] at hsl
      obtain ⟨rfl, rfl⟩ := hsl
      refine wpIn_region ?_
      have := region_text (ro := ro) (nn := nn) hG (base := base) hQ 0 l rs st a w A φ (fun i o ho => by rw [Nat.zero_add]; exact hback i o ho) hrs h r (by simpa using hruns)
      rw [hsize] at this
      rwa [List.range_eq_range']
    | true =>
      simp only [if_true] at hsl
      split at hsl
      · rename_i hok
        simp only [Option.some.injEq, Prod.mk.injEq] at hsl
        obtain ⟨rfl, rfl⟩ := hsl
        simp only [Bool.and_eq_true] at hok
        refine wpIn_region_any hm ?_
        have hlen := steps_len (base := base) hrs
        have hsget : ∀ (i : Nat) (p : Nat × SO × Rc), (steps base l rs)[i]? = some p → p.1 = base + i ∧ l[i]? = some p.2.1 ∧ rs[i]? = some p.2.2 := fun i p hp => by
          have hi : i < l.length := by rw [← hlen]; exact (List.getElem?_eq_some_iff.1 hp).1
          have := steps_get (base := base) (List.getElem?_eq_getElem hi) (List.getElem?_eq_getElem (l := rs) (i := i) (by omega))
          rw [hp] at this; injection this with this
          subst this
          exact ⟨rfl, List.getElem?_eq_getElem hi, List.getElem?_eq_getElem (by omega)⟩
        have hcanAll : ∀ (L : List (Nat × SO × Rc)) (s s' : St), Runs P E L s s' → ∀ p ∈ L, ∃ s1, Can P E p.1 p.2.1 s1 p.2.2 := by
          intro L
          induction L with
          | nil => intro s s' _ p hp; simp at hp
          | cons q L ih =>
            intro s s' hr p hp
            obtain ⟨qi, qo, qr⟩ := q
            simp only [Runs] at hr
            rcases List.mem_cons.1 hp with rfl | hp
            · exact ⟨s, hr.1⟩
            · exact ih _ _ hr.2 p hp
        refine region_draw hG (base := base) hQ ?_ ops.size (steps base l rs) (Array.replicate ops.size false) st a _ A φ (by rw [hlen, hsize]) (by simp) ?_ ?_ ?_ ?_ h.drew ⟨r.size, r.defers, fun k => CA.goes (goes_drew A w) _ _ (fun _ _ => rfl) (r.val k), r.nod⟩ hruns
        · intro i o ho e he hb
          have h1 := hok.1
          unfold edgesOk at h1
          rw [List.all_eq_true] at h1
          have := h1 (o, i) (by rw [List.mem_zipIdx_iff_getElem?]; simpa using ho)
          rw [List.all_eq_true] at this
          have := this e (Array.mem_toList_iff.2 he)
          simpa [hb] using this
        · intro p hp
          obtain ⟨i, hi, hpe⟩ := List.getElem_of_mem hp
          obtain ⟨g1, g2, g3⟩ := hsget i p (by rw [← hpe]; exact List.getElem?_eq_getElem hi)
          obtain ⟨x, hx, hs⟩ := hback i _ g2
          exact ⟨i, x, g1, hx, hs⟩
        · intro i
          constructor
          · intro hi
            have hlt : i < ops.size := by
              rcases Nat.lt_or_ge i ops.size with h' | h'
              · exact h'
              · rw [Array.getD_eq_getD_getElem?, Array.getElem?_eq_none (by simpa using h')] at hi; simp at hi
            refine ⟨(steps base l rs)[i]'(by rw [hlen]; omega), List.getElem_mem _, ?_⟩
            exact (hsget i _ (List.getElem?_eq_getElem _)).1
          · rintro ⟨p, hp, hpe⟩
            obtain ⟨j, hj, hpj⟩ := List.getElem_of_mem hp
            obtain ⟨g1, g2, g3⟩ := hsget j p (by rw [← hpj]; exact List.getElem?_eq_getElem hj)
            have : j = i := by omega
            subst this
            rw [Array.getD_eq_getD_getElem?]
            rw [hlen] at hj
            simp [show j < ops.size from by omega]
        · rw [List.pairwise_iff_getElem]
          intro i j hi hj hij
          obtain ⟨a1, a2, a3⟩ := hsget i _ (List.getElem?_eq_getElem hi)
          obtain ⟨b1, b2, b3⟩ := hsget j _ (List.getElem?_eq_getElem hj)
          refine ⟨by omega, ?_⟩
          rw [a1, b1, Nat.add_sub_cancel_left, Nat.add_sub_cancel_left]
          by_cases hb : ((befL ops.toList).getD j 0).testBit i = true
          · exact Or.inl hb
          · right
            have h2 := hok.2
            unfold slotsOk at h2
            rw [List.all_eq_true] at h2
            have h3 := h2 (_, j) (List.mem_zipIdx_iff_getElem?.2 b2)
            rw [List.all_eq_true] at h3
            have hti : (l.take j)[i]? = some ((steps base l rs)[i]).2.1 := by rw [List.getElem?_take_of_lt hij]; exact a2
            have h4 := h3 (_, i) (List.mem_zipIdx_iff_getElem?.2 hti)
            simp only [Bool.or_eq_true] at h4
            have h5 := h4.resolve_left hb
            refine apart_of h5 ?_
            obtain ⟨s1, c1⟩ := hcanAll _ _ _ hruns _ (List.getElem_mem hi)
            obtain ⟨s2, c2⟩ := hcanAll _ _ _ hruns _ (List.getElem_mem hj)
            by_cases hq : (((steps base l rs)[j]).2.1.k.quiet || ((steps base l rs)[i]).2.1.k.quiet || (((steps base l rs)[j]).2.1.k.reads && ((steps base l rs)[i]).2.1.k.reads)) = true
            · simp only [Bool.or_eq_true, Bool.and_eq_true] at hq
              rcases hq with (hq | hq) | ⟨hq1, hq2⟩
              · obtain ⟨e1, e2⟩ := quiet_can hq c2
                unfold apartR; simp [e1, e2, keysOf]
              · obtain ⟨e1, e2⟩ := quiet_can hq c1
                unfold apartR; simp [e1, e2, keysOf]
              · have e1 := reads_can hq1 c2
                have e2 := reads_can hq2 c1
                unfold apartR; simp [e1, e2, keysOf]
            · have hmem : (i, j) ∈ pairsOf (befL ops.toList) l := by
                unfold pairsOf
                rw [List.mem_flatMap]
                refine ⟨(_, j), List.mem_zipIdx_iff_getElem?.2 b2, ?_⟩
                rw [List.mem_filterMap]
                refine ⟨(_, i), List.mem_zipIdx_iff_getElem?.2 hti, ?_⟩
                rw [if_neg]
                simp only [Bool.or_eq_true] at hq ⊢
                intro hc
                rcases hc with ((hc | hc) | hc) | hc
                · exact hb hc
                · exact hq (Or.inl (Or.inl hc))
                · exact hq (Or.inl (Or.inr hc))
                · exact hq (Or.inr hc)
              obtain ⟨ra, rb, e1, e2, e3⟩ := hprs (i, j) hmem
              rw [a3] at e1; injection e1 with e1; subst e1
              rw [b3] at e2; injection e2 with e2; subst e2
              exact e3
        · intro i o ho hi
          rw [Array.getD_eq_getD_getElem?] at hi
          have hlt := (Array.getElem?_eq_some_iff.1 ho).1
          simp [hlt] at hi
      · simp at hsl
  · simp at hsl

end
end Go.Sx
