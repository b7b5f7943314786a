/- Every operation that calls nothing: what it does in the machine is what its slim twin does. No statement of a seat is proved here. -/
import Derived.Test.YtgmpceijcdimkaaGreatDoorSxC
import Derived.OrdersIn
import Derived.RangeFuncLeaves
set_option linter.unusedSimpArgs false
set_option linter.unusedVariables false
namespace Go.Sx
section
variable {P : Program} {E : Env} {F : Frm} {w : World} {A : Nat → Prop} {φ : Nat → Nat} {G : Nat → Option (List T)} {st : St} {n : Nat} {a : Act} {ds : List Deferred}

/-- What an operation has come to. -/
def Ran (P : Program) (E : Env) (F : Frm) (st : St) (A : Nat → Prop) (φ : Nat → Nat) (w : World) (s : Sem Next) (x : AV) (sto' : Nat → Option Ob) : Prop :=
 ∃ nx v w' A' φ', s.run P w = .ok nx w' ∧ (nx = .value v ∨ (nx = .skip ∧ v = undef)) ∧ Did E F st.sto A φ w x v sto' w' A' φ'

theorem A4d {s : Sem Value} {x : AV} {v : Value} {w' : World} {A' : Nat → Prop} {φ' : Nat → Nat} {sto' : Nat → Option Ob} (h : s.run P w = .ok v w') (d : Did E F st.sto A φ w x v sto' w' A' φ') :
  Ran P E F st A φ w (do pure (.value (← s)) : Sem Next) x sto' := by
 refine ⟨.value v, v, w', A', φ', ?_, Or.inl rfl, d⟩
 show (s >>= fun v => pure (.value v) : Sem Next).run P w = _
 rw [Sem.run_bind, h]; rfl

theorem E2n (hG : GOK E G) (h : RS E F st.sto w A φ) (r : RE ds st n a w A φ) {o : Oper} {so : SOp} (hs : J5 P G o.op = some so) {id : Nat} {x : AV} {wr : List (Nat × Ob)}
  (hc : J9 id so (·.ev st.env) st.sto = some (x, wr)) : Ran P E F st A φ w (execOp a.eval o) x (G6 st.sto wr) := by
 obtain ⟨dst, op, ty, pos, after, guard⟩ := o
 simp only at hs
 cases op with
 | move y =>
  simp only [J5, Option.map_eq_some_iff] at hs
  obtain ⟨sv, hy, rfl⟩ := hs
  simp only [J9, Option.some.injEq, Prod.mk.injEq] at hc
  obtain ⟨rfl, rfl⟩ := hc
  have ev := M9 hG h r hy
  exact ⟨.value (a.eval y), _, w, A, φ, rfl, Or.inl rfl, Did.same h ev.1 ev.2⟩
 | assign y =>
  simp only [J5, Option.map_eq_some_iff] at hs
  obtain ⟨sv, hy, rfl⟩ := hs
  simp only [J9, Option.some.injEq, Prod.mk.injEq] at hc
  obtain ⟨rfl, rfl⟩ := hc
  have ev := M9 hG h r hy
  exact ⟨.value (a.eval y), _, w, A, φ, rfl, Or.inl rfl, Did.same h ev.1 ev.2⟩
 | pick c p q =>
  simp only [J5] at hs
  split at hs
  ·rename_i cs ps qs hcs hps hqs
   injection hs with hs; subst hs
   simp only [J9] at hc
   split at hc
   ·rename_i t hct
    simp only [Option.some.injEq, Prod.mk.injEq] at hc
    obtain ⟨rfl, rfl⟩ := hc
    have ec := (M9 hG h r hcs).1
    rw [hct] at ec
    have e1 := M9 hG h r hps
    have e2 := M9 hG h r hqs
    refine ⟨.value (if t then a.eval p else a.eval q), _, w, A, φ, ?_, Or.inl rfl, ?_⟩
    ·simp only [execOp, (U3 ec).1, asBool, Sem.run_bind, Sem.run_pure, Result.andThen_ok]
    ·cases t with
     | true => exact Did.same h e1.1 e1.2
     | false => exact Did.same h e2.1 e2.2
   ·simp at hc
  ·simp at hs
 | alloc t =>
  simp only [J5, Option.map_eq_some_iff] at hs
  obtain ⟨z, hz, rfl⟩ := hs
  simp only [J9] at hc
  split at hc
  ·rename_i hn
   simp only [Option.some.injEq, Prod.mk.injEq] at hc
   obtain ⟨rfl, rfl⟩ := hc
   obtain ⟨zv, z1, z2, z3, z4⟩ := A6f hz
   refine A4d (s := Instr.alloc t true (.tuple #[])) (w' := w.alloc (.cells zv.cells t)) ?_ (D51 h hn t (z2 A φ w) z3 (fun j hj => by rw [A91] at hj; simp at hj))
   simp only [Instr.alloc, Sem.run_bind, z1, Result.andThen_ok, newVar, newRow, run_newObj, Sem.run_pure]
   rfl
  ·simp at hc
 | box t y =>
  simp only [J5, Option.map_eq_some_iff] at hs
  obtain ⟨sv, hy, rfl⟩ := hs
  simp only [J9] at hc
  split at hc
  ·rename_i hn
   simp only [Option.some.injEq, Prod.mk.injEq] at hc
   obtain ⟨rfl, rfl⟩ := hc
   have ev := M9 hG h r hy
   have hcs := B4p hn.2 ev.1
   refine A4d (s := Instr.box t (a.eval y)) (w' := w.alloc (.cells (a.eval y).cells t)) ?_ (D51 h hn.1 t hcs.1 hcs.2 (fun j hj => by rw [B68] at hj; exact ev.2 j hj))
   simp only [Instr.box, Sem.run_bind, Result.andThen_ok, newVar, newRow, run_newObj, Sem.run_pure]
   rfl
  ·simp at hc
 | build t ps =>
  obtain ⟨v, hr, hd⟩ := D5f hG h r hs hc
  exact A4d hr hd
 | buildSlice t len ps =>
  obtain ⟨v, w', φ', hr, hd⟩ := E0c hG h r hs hc
  exact A4d hr hd
 | load t y =>
  simp only [J5] at hs
  split at hs
  ·rename_i d m sv hu hm hy
   injection hs with hs; subst hs
   have ev := M9 hG h r hy
   have hc' : J9 id (.load (S5 d) m sv) (fun _ => sv.ev st.env) st.sto = some (x, wr) := by
    have := B8d (id := id) (o := .load (S5 d) m sv) (ρ := (·.ev st.env)) (ρ' := fun _ => sv.ev st.env) (sto := st.sto) (sto' := st.sto) (fun y hy => by simp [SOp.svs] at hy; rw [hy]) (fun _ _ => rfl)
    rw [this.1]; exact hc
   obtain ⟨rfl, v, hr, h1, h2⟩ := D2a h hu hm ev.1 hc'
   exact A4d hr (Did.same h h1 h2)
  ·simp at hs
 | store t y v =>
  simp only [J5] at hs
  split at hs
  ·rename_i m ys vs hm hy hv
   injection hs with hs; subst hs
   obtain ⟨w', hr, hd⟩ := D5a h hm (M9 hG h r hy).1 (M9 hG h r hv).1 (M9 hG h r hv).2 hc
   refine ⟨.skip, undef, w', A, φ, ?_, Or.inr ⟨rfl, rfl⟩, hd⟩
   show (Instr.storeAt t (a.eval y) (a.eval v) >>= fun _ => pure .skip : Sem Next).run P w = _
   rw [Sem.run_bind, hr]; rfl
  ·simp at hs
 | nilCheck y =>
  simp only [J5, Option.map_eq_some_iff] at hs
  obtain ⟨sv, hy, rfl⟩ := hs
  have ev := M9 hG h r hy
  simp only [J9] at hc
  have fin : ∀ {z : AV}, sv.ev st.env = z → some (z, ([] : List (Nat × Ob))) = some (x, wr) → (execOp a.eval ⟨dst, .nilCheck y, ty, pos, after, guard⟩).run P w = .ok (.value (a.eval y)) w →
    Ran P E F st A φ w (execOp a.eval ⟨dst, .nilCheck y, ty, pos, after, guard⟩) x (G6 st.sto wr) := by
   intro z hz hx hrun
   simp only [Option.some.injEq, Prod.mk.injEq] at hx
   obtain ⟨rfl, rfl⟩ := hx
   rw [hz] at ev
   exact ⟨_, _, w, A, φ, hrun, Or.inl rfl, Did.same h ev.1 ev.2⟩
  split at hc
  ·rename_i hz
   refine fin hz hc ?_
   have := ev.1; rw [hz] at this; simp only [CA] at this; simp only [execOp, this, Sem.run_pure]
  ·rename_i hz
   refine fin hz hc ?_
   have := ev.1; rw [hz] at this; simp only [CA] at this; simp only [execOp, this, Sem.run_pure]
  ·rename_i hz
   refine fin hz hc ?_
   have := ev.1; rw [hz] at this; simp only [CA] at this; obtain ⟨b, o, hv, _⟩ := this; simp only [execOp, hv, Sem.run_pure]
  ·rename_i hz
   refine fin hz hc ?_
   have := ev.1; rw [hz] at this; simp only [CA] at this; obtain ⟨us, ys, hv, _⟩ := this; simp only [execOp, hv, Sem.run_pure]
  ·simp at hc
 | binOp op t y z tz =>
  have done : ∀ {v : Value}, (do eqGuard op t y z (a.eval y) (a.eval z); binOp op t (a.eval y) (a.eval z) : Sem Value).run P w = .ok v w → v.oneCell' = true → (x, wr) = (AV.t (.v v), []) → Ran P E F st A φ w (execOp a.eval ⟨dst, .binOp op t y z tz, ty, pos, after, guard⟩) x (G6 st.sto wr) := by
   intro v hr h1 he
   injection he with he1 he2; subst he1; subst he2
   exact A4d hr (Did.same h (B45 h1) (by simp [AV.ids]))
  have bin : ∀ {ys zs : SV}, L9 G y = some ys → L9 G z = some zs → J9 id (.bin op ys zs) (·.ev st.env) st.sto = some (x, wr) → Ran P E F st A φ w (execOp a.eval ⟨dst, .binOp op t y z tz, ty, pos, after, guard⟩) x (G6 st.sto wr) := by
   intro ys zs hy hz hc
   simp only [J9, Option.map_eq_some_iff] at hc
   obtain ⟨v, hv, he⟩ := hc
   obtain ⟨r1, r2⟩ := E0s (t := t) (x := y) (y := z) hv (M9 hG h r hy).1 (M9 hG h r hz).1
   exact done r1 r2 he.symm
  have beq : ∀ {neg : Bool} {ys zs : SV}, P.underlying t = some .bool → op = (if neg then .neq else .eql) → L9 G y = some ys → L9 G z = some zs → J9 id (.beq neg ys zs) (·.ev st.env) st.sto = some (x, wr) → Ran P E F st A φ w (execOp a.eval ⟨dst, .binOp op t y z tz, ty, pos, after, guard⟩) x (G6 st.sto wr) := by
   intro neg ys zs hu hop hy hz hc
   simp only [J9] at hc
   split at hc
   ·rename_i p q hp hq
    have e1 := (M9 hG h r hy).1; rw [hp] at e1
    have e2 := (M9 hG h r hz).1; rw [hq] at e2
    refine done (v := .bool (if neg then !(p == q) else p == q)) ?_ rfl (by injection hc with hc; exact hc.symm)
    rw [(U3 e1).1, (U3 e2).1, hop]
    exact E0i hu
   ·simp at hc
  have eqf : ∀ {neg : Bool} {ks : List EK} {ys zs : SV}, (P.underlying t).any S5 = true → P.eqGuardType P.depth t = false → C36 P 20 t = some ks → op = (if neg then .neq else .eql) → L9 G y = some ys → L9 G z = some zs → J9 id (.eqf neg ks ys zs) (·.ev st.env) st.sto = some (x, wr) → Ran P E F st A φ w (execOp a.eval ⟨dst, .binOp op t y z tz, ty, pos, after, guard⟩) x (G6 st.sto wr) := by
   intro neg ks ys zs hu hgt hf hop hy hz hc
   simp only [J9] at hc
   split at hc
   ·rename_i p q hp hq
    simp only [Option.map_eq_some_iff] at hc
    obtain ⟨b, hb, he⟩ := hc
    have e1 := (M9 hG h r hy).1; rw [hp] at e1
    have e2 := (M9 hG h r hz).1; rw [hq] at e2
    have := D9u (op := op) (t := t) (x := y) (y := z) (by rw [hop]; cases neg <;> simp) hu hgt hf e1 e2 hb
    refine done this rfl ?_
    rw [← he]
    subst hop
    cases neg <;> simp
   ·simp at hc
  simp only [J5] at hs
  split at hs
  ·rename_i k ys zs hu hy hz
   injection hs with hs; subst hs; exact bin hy hz hc
  ·rename_i ys zs hu hy hz
   injection hs with hs; subst hs; exact bin hy hz hc
  ·rename_i k ys zs hu hy hz
   injection hs with hs; subst hs; exact bin hy hz hc
  ·rename_i ms ys hu hy hz
   have ifnil : ∀ {neg : Bool}, op = (if neg then .neq else .eql) → J9 id (.ifnil neg ys) (·.ev st.env) st.sto = some (x, wr) → Ran P E F st A φ w (execOp a.eval ⟨dst, .binOp op t y z tz, ty, pos, after, guard⟩) x (G6 st.sto wr) := by
    intro neg hop hc
    simp only [J9] at hc
    split at hc
    ·rename_i b hv
     have e1 := (M9 hG h r hy).1; rw [hv] at e1
     have e2 := (M9 hG h r hz).1
     injection hc with hc
     refine done (v := .bool (b == neg)) ?_ rfl hc.symm
     rw [(U3 e2).1, hop]
     obtain ⟨c, rfl⟩ : ∃ c, z = .const c := by
      cases z with
      | const c => exact ⟨c, rfl⟩
      | tmp k => simp [L9] at hz
      | func f => simp [L9] at hz
      | global g => simp [L9] at hz
     exact D6k hu e1
    ·simp at hc
   split at hs
   ·injection hs with hs; subst hs; exact ifnil rfl hc
   ·injection hs with hs; subst hs; exact ifnil rfl hc
   ·simp at hs
  ·rename_i e ys hu hy hz
   have isnil : ∀ {neg : Bool}, op = (if neg then .neq else .eql) → J9 id (.isnil neg ys) (·.ev st.env) st.sto = some (x, wr) → Ran P E F st A φ w (execOp a.eval ⟨dst, .binOp op t y z tz, ty, pos, after, guard⟩) x (G6 st.sto wr) := by
    intro neg hop hc
    obtain ⟨q, m, cp, hv, he⟩ := D95 (M9 hG h r hy).1 hc
    have e2 := (M9 hG h r hz).1
    refine done ?_ rfl he
    rw [hv, (U3 e2).1, hop]
    exact D5k hu
   split at hs
   ·injection hs with hs; subst hs; exact isnil rfl hc
   ·injection hs with hs; subst hs; exact isnil rfl hc
   ·simp at hs
  ·rename_i ys zs hu hy hz
   split at hs
   ·injection hs with hs; subst hs; exact beq hu rfl hy hz hc
   ·injection hs with hs; subst hs; exact beq hu rfl hy hz hc
   ·simp at hs
  ·rename_i fs ys zs hu hy hz
   split at hs
   ·rename_i hgt
    split at hs
    ·rename_i ks hf
     injection hs with hs; subst hs; exact eqf (by rw [hu]; rfl) hgt hf rfl hy hz hc
    ·rename_i ks hf
     injection hs with hs; subst hs; exact eqf (by rw [hu]; rfl) hgt hf rfl hy hz hc
    ·simp at hs
   ·simp at hs
  ·rename_i l e ys zs hu hy hz
   split at hs
   ·rename_i hgt
    split at hs
    ·rename_i ks hf
     injection hs with hs; subst hs; exact eqf (by rw [hu]; rfl) hgt hf rfl hy hz hc
    ·rename_i ks hf
     injection hs with hs; subst hs; exact eqf (by rw [hu]; rfl) hgt hf rfl hy hz hc
    ·simp at hs
   ·simp at hs
  ·simp at hs
 | unOp op t y =>
  simp only [J5, Option.map_eq_some_iff] at hs
  obtain ⟨sv, hy, rfl⟩ := hs
  simp only [J9, Option.map_eq_some_iff] at hc
  obtain ⟨v, hv, he⟩ := hc
  injection he with he1 he2; subst he1; subst he2
  obtain ⟨r1, r2⟩ := E1v (P := P) hv (M9 hG h r hy).1
  exact A4d r1 (Did.same h (B45 r2) (by simp [AV.ids]))
 | convert s d y =>
  simp only [J5] at hs
  split at hs
  ·rename_i k0 k sv hu hu2 hy
   injection hs with hs; subst hs
   simp only [J9] at hc
   split at hc
   ·rename_i k1 m hv
    simp only [Option.some.injEq, Prod.mk.injEq] at hc
    obtain ⟨rfl, rfl⟩ := hc
    have e1 := (M9 hG h r hy).1; rw [hv] at e1
    refine A4d (s := convert s d (a.eval y)) (v := .int k (k.wrap m)) (w' := w) ?_ (Did.same h (B45 rfl) (by simp [AV.ids]))
    rw [(U3 e1).1]
    simp [convert, run_underlying hu, run_underlying hu2, Conv.intToInt]
   ·simp at hc
  ·rename_i k0 k sv hu hu2 hy
   injection hs with hs; subst hs
   simp only [J9] at hc
   split at hc
   ·rename_i k1 m hv
    simp only [Option.some.injEq, Prod.mk.injEq] at hc
    obtain ⟨rfl, rfl⟩ := hc
    have e1 := (M9 hG h r hy).1; rw [hv] at e1
    refine A4d (s := convert s d (a.eval y)) (v := .float k (k.nearest m)) (w' := w) ?_ (Did.same h (B45 rfl) (by simp [AV.ids]))
    rw [(U3 e1).1]
    simp [convert, run_underlying hu, run_underlying hu2, Conv.intToFloat]
   ·simp at hc
  ·simp at hs
 | fieldAddr t y i =>
  simp only [J5] at hs
  split at hs
  ·rename_i fs hu
   split at hs
   ·rename_i f sv hf hy
    split at hs
    ·rename_i m hm
     split at hs
     ·rename_i h0
      injection hs with hs; subst hs
      have ev := M9 hG h r hy
      simp only [J9] at hc
      split at hc
      case h_2 => simp at hc
      rename_i x' hx1
      simp only [Option.some.injEq, Prod.mk.injEq] at hc
      obtain ⟨rfl, rfl⟩ := hc
      obtain ⟨b, hb, hca, hid⟩ := D91 ev.1 hx1
      refine A4d (s := Instr.fieldAt t (a.eval y) i) (v := .pointer (some (b.add f.offset))) (w' := w) ?_ (Did.same h hca (fun j hj => ev.2 j (by rw [← hid]; exact hj)))
      rw [hb]; exact D1e hu hf hm h0 b
     ·simp at hs
    ·simp at hs
   ·simp at hs
  ·simp at hs
 | field t y i =>
  simp only [J5] at hs
  split at hs
  ·rename_i fs hu
   split at hs
   ·rename_i f sv hf hy
    split at hs
    ·rename_i m d hm hd
     injection hs with hs; subst hs
     have ev := M9 hG h r hy
     simp only [J9] at hc
     split at hc
     ·rename_i cs hv
      simp only [Option.map_eq_some_iff] at hc
      obtain ⟨v, hv2, he⟩ := hc
      injection he with he1 he2; subst he1; subst he2
      have e1 := ev.1; rw [hv] at e1
      simp only [CA] at e1
      obtain ⟨ys, hys, hcs⟩ := e1
      obtain ⟨u, hr, hca, hid⟩ := C8a hd hm hcs hv2
      refine A4d (s := Instr.field t (a.eval y) i) (v := u) (w' := w) ?_ (Did.same h hca (fun j hj => ev.2 j (by rw [hv]; simp only [AV.ids]; exact hid j hj)))
      rw [hys]
      simp only [Instr.field, Sem.run_bind, run_underlying hu, Result.andThen_ok, hf, asAgg, Sem.run_pure, hr]
     ·simp at hc
    ·simp at hs
   ·simp at hs
  ·simp at hs
 | indexAddr t y i =>
  simp only [J5] at hs
  split at hs
  ·rename_i len e ys is hu hy hi
   simp only [Option.map_eq_some_iff] at hs
   obtain ⟨m, hm, rfl⟩ := hs
   have ev := M9 hG h r hy
   simp only [J9] at hc
   split at hc
   ·rename_i k q hq
    have ei := (M9 hG h r hi).1; rw [hq] at ei
    split at hc
    ·rename_i h0
     split at hc
     ·rename_i h1
      split at hc
      case h_2 => simp at hc
      rename_i x' hx1
      simp only [Option.some.injEq, Prod.mk.injEq] at hc
      obtain ⟨rfl, rfl⟩ := hc
      obtain ⟨b, hb, hca, hid⟩ := D91 ev.1 hx1
      refine A4d (s := Instr.indexAt t (a.eval y) (a.eval i)) (v := .pointer (some (b.add (q.toNat * m)))) (w' := w) ?_ (Did.same h hca (fun j hj => ev.2 j (by rw [← hid]; exact hj)))
      rw [hb, (U3 ei).1]; exact C38 hu hm b h0 h1
     ·simp at hc
    ·simp at hc
   ·simp at hc
  ·rename_i e ys is hu hy hi
   simp only [Option.map_eq_some_iff] at hs
   obtain ⟨m, hm, rfl⟩ := hs
   have ev := M9 hG h r hy
   simp only [J9] at hc
   split at hc
   ·rename_i k q hq
    have ei := (M9 hG h r hi).1; rw [hq] at ei
    split at hc
    ·rename_i h0
     split at hc
     ·rename_i j s off l rr hv
      split at hc
      ·rename_i h1
       obtain ⟨h1, rfl⟩ := h1
       simp only [Option.some.injEq, Prod.mk.injEq] at hc
       obtain ⟨rfl, rfl⟩ := hc
       have e1 := ev.1; rw [hv] at e1
       simp only [CA] at e1
       obtain ⟨ba, cap, hvv, hle, hrf, hroom⟩ := e1
       rcases hroom with hroom | ⟨hba, hrc⟩
       ·omega
       refine A4d (s := Instr.indexAt t (a.eval y) (a.eval i)) (w' := w) (by rw [hvv, hba, (U3 ei).1]; exact B53 hu hm _ h0 h1) (Did.same h ?_ (fun j' hj' => ev.2 j' (by rw [hv]; simpa [AV.ids] using hj')))
       simp only [CA, A2w, Nat.add_mul, Nat.add_zero]
      ·simp at hc
     ·rename_i s es hv
      split at hc
      ·rename_i hss; subst hss
       split at hc
       ·rename_i ee hee
        simp only [Option.some.injEq, Prod.mk.injEq] at hc
        obtain ⟨rfl, rfl⟩ := hc
        have e1 := ev.1; rw [hv] at e1
        simp only [CA, CT] at e1
        obtain ⟨ba, cap, hvv, hle, hroom⟩ := e1
        have hlt := (List.getElem?_eq_some_iff.1 hee).1
        rcases hroom with hroom | ⟨b, o, hba, hA, hrows⟩
        ·subst hroom; simp at hlt
        refine A4d (s := Instr.indexAt t (a.eval y) (a.eval i)) (w' := w) (by rw [hvv, hba, (U3 ei).1]; exact B53 hu hm _ h0 (by omega)) (Did.same h ?_ (by simp [AV.ids]))
        simp only [CA, A2w]
        exact ⟨b, o + q.toNat * s, rfl, hA, (hrows.get hee).2⟩
       ·simp at hc
      ·simp at hc
     ·simp at hc
    ·simp at hc
   ·simp at hc
  ·simp at hs
 | index t y i =>
  simp only [J5] at hs
  split at hs
  ·rename_i len e ys is hu hy hi
   split at hs
   ·rename_i m d hm hd
    injection hs with hs; subst hs
    have ev := M9 hG h r hy
    simp only [J9] at hc
    split at hc
    ·rename_i k q hq
     have ei := (M9 hG h r hi).1; rw [hq] at ei
     split at hc
     ·rename_i h0
      split at hc
      ·rename_i l' s' g' cs he hv
       injection he with he; injection he with he1 he2; injection he2 with he2 he3
       subst he1; subst he2; subst he3
       split at hc
       ·rename_i h1
        simp only [Option.map_eq_some_iff] at hc
        obtain ⟨v, hv2, he⟩ := hc
        injection he with he1 he2; subst he1; subst he2
        have e1 := ev.1; rw [hv] at e1
        simp only [CA] at e1
        obtain ⟨us, hys, hcs⟩ := e1
        obtain ⟨u, hr, hca, hid⟩ := C8a hd hm hcs hv2
        refine A4d (s := Instr.index t (a.eval y) (a.eval i)) (v := u) (w' := w) ?_ (Did.same h hca (fun j hj => ev.2 j (by rw [hv]; simp only [AV.ids]; exact hid j hj)))
        rw [hys, (U3 ei).1, C6y hu hm us h0 h1, hr]
       ·simp at hc
      ·rename_i he _; simp at he
      ·simp at hc
     ·simp at hc
    ·simp at hc
   ·simp at hs
  ·rename_i ys is hu hy hi
   injection hs with hs; subst hs
   have ev := M9 hG h r hy
   simp only [J9] at hc
   split at hc
   ·rename_i k q hq
    have ei := (M9 hG h r hi).1; rw [hq] at ei
    split at hc
    ·rename_i h0
     split at hc
     ·rename_i he _; simp at he
     ·rename_i s _ hv
      split at hc
      ·rename_i b hb
       simp only [Option.some.injEq, Prod.mk.injEq] at hc
       obtain ⟨rfl, rfl⟩ := hc
       have e1 := ev.1; rw [hv] at e1
       refine A4d (s := Instr.index t (a.eval y) (a.eval i)) (w' := w) (by rw [(U3 e1).1, (U3 ei).1]; exact C6s hu s h0 hb) (Did.same h (B45 rfl) (by simp [AV.ids]))
      ·simp at hc
     ·simp at hc
    ·simp at hc
   ·simp at hc
  ·simp at hs
 | extract y i =>
  simp only [J5, Option.map_eq_some_iff] at hs
  obtain ⟨sv, hy, rfl⟩ := hs
  have ev := M9 hG h r hy
  simp only [J9] at hc
  split at hc
  ·rename_i vs hv
   split at hc
   ·rename_i u hu
    simp only [Option.some.injEq, Prod.mk.injEq] at hc
    obtain ⟨rfl, rfl⟩ := hc
    have e1 := ev.1; rw [hv] at e1
    simp only [CA] at e1
    obtain ⟨ys, hys, hcs⟩ := e1
    obtain ⟨z, hz, hca⟩ := hcs.get hu
    refine A4d (s := Instr.extract (a.eval y) i) (v := z) (w' := w) ?_ (Did.same h hca (fun j hj => ev.2 j (by rw [hv]; simp only [AV.ids]; exact A3t.2 ⟨u, List.mem_of_getElem? hu, hj⟩)))
    rw [hys]
    simp only [Array.getElem?_toList] at hz
    simp [Instr.extract, hz]
   ·simp at hc
  ·simp at hc
 | makeFunc fn first caps =>
  cases fn with
  | func f =>
   simp only [J5] at hs
   split at hs
   ·rename_i fs cs hfs hcs
    injection hs with hs; subst hs
    simp only [J9, Option.some.injEq, Prod.mk.injEq] at hc
    obtain ⟨rfl, rfl⟩ := hc
    have e1 := C1k hG h r hfs
    have e2 := C1k hG h r hcs
    refine A4d (s := Instr.makeFunc (.func f) (first.map a.eval) (caps.map a.eval)) (w' := w) rfl (Did.same h ?_ (fun j hj => ?_))
    ·simp only [CA]; exact ⟨_, _, rfl, by simpa using e1.1, by simpa using e2.1⟩
    ·simp only [AV.ids, List.mem_append] at hj
     exact hj.elim (e1.2 j) (e2.2 j)
   ·simp at hs
  | _ => simp [J5] at hs
 | makeSlice t l c =>
  obtain ⟨v, w', φ', hr, hd⟩ := D7s hG h r hs hc
  exact A4d hr hd
 | slice t y lo hi mx =>
  cases mx with
  | none =>
   obtain ⟨v, hr, hd⟩ := E0f hG h r hs hc
   exact A4d hr hd
  | some m => simp [J5] at hs
 | call c =>
  obtain ⟨callee, args, ts⟩ := c
  cases callee with
  | builtin b =>
   have hres : ∀ {bb : Builtin}, b = bb → (execOp a.eval ⟨dst, .call ⟨.builtin b, args, ts⟩, ty, pos, after, guard⟩).run P w = (builtin bb ts ty (args.map fun | .const _ => true | _ => false) (args.map a.eval)).run P w := by
    intro bb hb; subst hb; rfl
   cases b with
   | len =>
    have hs' := hs
    simp only [J5] at hs
    split at hs
    ·rename_i t y ht hy0
     have hrun : ∀ {str : Bool} {ys : SV}, L9 G y = some ys → (if str then P.underlying t = some .string else ∃ e, P.underlying t = some (.slice e)) → J9 id (.len str ys) (·.ev st.env) st.sto = some (x, wr) → Ran P E F st A φ w (execOp a.eval ⟨dst, .call ⟨.builtin .len, args, ts⟩, ty, pos, after, guard⟩) x (G6 st.sto wr) := by
      intro str ys hy hu hc
      simp only [J9] at hc
      split at hc
      ·rename_i hstr
       simp only [Option.map_eq_some_iff] at hc
       obtain ⟨m, hm, he⟩ := hc
       injection he with he1 he2; subst he1; subst he2
       have hl := D9s (P := P) (ty := ty) hu hm hstr (M9 hG h r hy).1 ts (args.map a.eval) ht (by simp [hy0])
       refine ⟨.value (.int .i64 m), .int .i64 m, w, A, φ, ?_, Or.inl rfl, Did.same h (B45 rfl) (by simp [AV.ids])⟩
       rw [hres rfl]
       simp only [builtin, Sem.run_bind, hl, Result.andThen_ok, Sem.run_pure]
      ·simp at hc
     split at hs
     ·rename_i hu
      simp only [Option.map_eq_some_iff] at hs
      obtain ⟨ys, hy, rfl⟩ := hs
      exact hrun hy (by simpa using hu) hc
     ·rename_i e hu
      simp only [Option.map_eq_some_iff] at hs
      obtain ⟨ys, hy, rfl⟩ := hs
      exact hrun hy (by simp [hu]) hc
     ·simp at hs
    ·simp at hs
   | append =>
    obtain ⟨v, w', φ', hr, hd⟩ := E0m (ty := ty) hG h r hs hc
    refine ⟨.value v, v, w', A, φ', ?_, Or.inl rfl, hd⟩
    rw [hres rfl]
    simp only [builtin, Sem.run_bind, hr, Result.andThen_ok, Sem.run_pure]
   | copy =>
    obtain ⟨v, w', hr, hd⟩ := D96 (ty := ty) hG h r hs hc
    refine ⟨.value v, v, w', A, φ, ?_, Or.inl rfl, hd⟩
    rw [hres rfl]
    simp only [builtin, Sem.run_bind, hr, Result.andThen_ok, Sem.run_pure]
   | clear =>
    obtain ⟨v, w', hr, hd⟩ := D9o (ty := ty) hG h r hs hc
    refine ⟨.value v, v, w', A, φ, ?_, Or.inl rfl, hd⟩
    rw [hres rfl]
    simp only [builtin, Sem.run_bind, hr, Result.andThen_ok, Sem.run_pure]
   | max =>
    simp only [J5, Option.map_eq_some_iff] at hs
    obtain ⟨ss, hss, rfl⟩ := hs
    simp only [J9] at hc
    split at hc
    ·rename_i k p k' q hpq
     split at hc
     ·rename_i hk; subst hk
      simp only [if_true, Option.some.injEq, Prod.mk.injEq] at hc
      obtain ⟨rfl, rfl⟩ := hc
      have ev := (C1k hG h r hss).1
      rw [hpq] at ev
      simp only [H7] at ev
      obtain ⟨z, zs, hz, h1, z2, zs2, rfl, h2, rfl⟩ := ev
      rw [(U3 h1).1, (U3 h2).1] at hz
      have harr : args.map a.eval = #[.int k p, .int k q] := by
       apply Array.ext'; simpa using hz
      refine ⟨.value (.int k (max p q)), _, w, A, φ, ?_, Or.inl rfl, Did.same h (B45 rfl) (by simp [AV.ids])⟩
      rw [hres rfl, harr]
      have hm : (if q > p then q else p) = max p q := by simp only [Int.max_def]; split <;> split <;> omega
      simp [builtin, Builtin.max_, Builtin.max2, hm]
     ·simp at hc
    ·simp at hc
   | min =>
    simp only [J5, Option.map_eq_some_iff] at hs
    obtain ⟨ss, hss, rfl⟩ := hs
    simp only [J9] at hc
    split at hc
    ·rename_i k p k' q hpq
     split at hc
     ·rename_i hk; subst hk
      simp only [Bool.false_eq_true, if_false, Option.some.injEq, Prod.mk.injEq] at hc
      obtain ⟨rfl, rfl⟩ := hc
      have ev := (C1k hG h r hss).1
      rw [hpq] at ev
      simp only [H7] at ev
      obtain ⟨z, zs, hz, h1, z2, zs2, rfl, h2, rfl⟩ := ev
      rw [(U3 h1).1, (U3 h2).1] at hz
      have harr : args.map a.eval = #[.int k p, .int k q] := by
       apply Array.ext'; simpa using hz
      refine ⟨.value (.int k (min p q)), _, w, A, φ, ?_, Or.inl rfl, Did.same h (B45 rfl) (by simp [AV.ids])⟩
      rw [hres rfl, harr]
      have hm : (if q < p then q else p) = min p q := by simp only [Int.min_def]; split <;> split <;> omega
      simp [builtin, Builtin.min_, Builtin.min2, hm]
     ·simp at hc
    ·simp at hc
   | _ => simp [J5] at hs
  | value f => simp [J5] at hs
  | invoke f m => simp [J5] at hs
 | _ => simp [J5] at hs

end
end Go.Sx

namespace Go.Sx

def A9 : List (Nat × Ob) → Nat → Option Ob
 | [], _ => none
 | (i, o) :: l, k => if k = i then some o else A9 l k

def A4 (l : List (Nat × Ob)) : List Nat := l.map (·.1)

theorem C7j {l : List (Nat × Ob)} {k : Nat} {o : Ob} (h : A9 l k = some o) : (k, o) ∈ l := by
 induction l with
 | nil => simp [A9] at h
 | cons p l ih =>
  obtain ⟨i, q⟩ := p
  simp only [A9] at h
  split at h
  ·rename_i e; injection h with h; subst e; subst h; simp
  ·simp [ih h]

theorem D8 {l : List (Nat × Ob)} {k : Nat} : (A9 l k).isSome = true ↔ k ∈ A4 l := by
 induction l with
 | nil => simp [A9, A4]
 | cons p l ih =>
  obtain ⟨i, q⟩ := p
  simp only [A9, A4, List.map_cons, List.mem_cons]
  split
  ·rename_i e; simp [e]
  ·rename_i e; simp only [e, false_or]; exact ih

/-- The objects that a call holds: each in a block of its own. -/
structure Holds (A : Nat → Prop) (φ : Nat → Nat) (w : World) (l : List (Nat × Ob)) : Prop where
 obj : ∀ id o, A9 l id = some o → CO A φ w (φ id) o
 own : ∀ id o, A9 l id = some o → ¬ A (φ id) ∧ φ id < w.heap.size
 inj : ∀ i j, i ∈ A4 l → j ∈ A4 l → i ≠ j → φ i ≠ φ j

/-- The ids that are met are held. -/
structure Shut (xs : List AV) (l : List (Nat × Ob)) : Prop where
 vals : ∀ i ∈ B5 xs, i ∈ A4 l
 objs : ∀ id o, A9 l id = some o → ∀ i ∈ o.ids, i ∈ A4 l
 live : ∀ id o, A9 l id = some o → o.live = true

/-- How a call has ended. -/
structure Fin (E : Env) (A : Nat → Prop) (φ : Nat → Nat) (w : World) (ins : List (Nat × Ob)) (r : AV) (outs : List (Nat × Ob)) (v : Value) (w' : World) (A' : Nat → Prop) (φ' : Nat → Nat) : Prop where
 go : Goes A A' w w'
 agree : ∀ id ∈ A4 ins, φ' id = φ id
 holds : Holds A' φ' w' outs
 fresh : ∀ id ∈ A4 outs, id ∈ A4 ins ∨ w.heap.size ≤ φ' id
 ca : CA A' φ' w' r v
 anew : ∀ b, A' b → A b ∨ w.heap.size ≤ b
 alt : ∀ b, A' b → b < w'.heap.size
 old : ∀ b, b < w.heap.size → (∀ id ∈ A4 ins, φ id ≠ b) → w'.heap[b]? = w.heap[b]?
 os : w'.os = w.os
 tape : w'.tape = w.tape
 output : w'.output = w.output
 drawn : E.cnt → w.drawn ≤ w'.drawn
 size : w.heap.size ≤ w'.heap.size

/-- A call of f, whether it has a body or not. -/
def E10 (P : Program) (f : FuncId) (vals : Array Value) (w : World) (R : Value → World → Prop) : Prop :=
 ((callFunc f vals).run P w = .ok (.enter f vals) w ∧ Calls P f vals w fun e w' => ∃ v, e = .returned v ∧ R v w') ∨
 (∃ v w', (callFunc f vals).run P w = .ok (.value v) w' ∧ R v w')

/-- Called with 'args', holding 'ins', f answers r and leaves 'outs'. -/
structure Meets (P : Program) (E : Env) (f : FuncId) (args : List AV) (ins : List (Nat × Ob)) (r : AV) (outs : List (Nat × Ob)) : Prop where
 shutIn : Shut args ins
 shutOut : Shut [r] outs
 stay : ∀ i ∈ A4 ins, i ∈ A4 outs
 runs : ∀ (A : Nat → Prop) (φ : Nat → Nat) (w : World) (vals : Array Value), E.gi w → (∀ b, E.gb b → A b) → (∀ b, A b → b < w.heap.size) → Holds A φ w ins → H7 A φ w args vals.toList →
  E10 P f vals w fun v w' => ∃ A' φ', Fin E A φ w ins r outs v w' A' φ'

/-- A row that is one's own, and has memory. -/
@[simp] def A2d : Option Ob → Bool
 | some (.row _ r _) => r
 | some (.rowA _ _) => true
 | _ => false

theorem A96 {x : Option Ob} (h : A2d x = true) : ∃ o, x = some o ∧ o.live = true := by
 unfold A2d at h
 split at h
 ·exact ⟨_, rfl, h⟩
 ·exact ⟨_, rfl, rfl⟩
 ·cases h

/-- A cell of a row as a tree: what is one's own is shown. -/
def B8 (sto : Nat → Option Ob) (sn : List Nat) : AV → Option T
 | .t x => some x
 | .own id sz off len _ => if len = 0 then some (.sl sz []) else if id ∈ sn then (B3 sz off len (sto id)).map (.sl sz) else none
 | _ => none

def B4 (sto : Nat → Option Ob) (sn : List Nat) : List AV → Option (List T)
 | [] => some []
 | x :: xs => match B8 sto sn x, B4 sto sn xs with
  | some a, some b => some (a :: b)
  | _, _ => none

def B6 (sto : Nat → Option Ob) (sn : List Nat) : List (List AV) → Option (List (List T))
 | [] => some []
 | x :: xs => match B4 sto sn x, B6 sto sn xs with
  | some a, some b => some (a :: b)
  | _, _ => none

/-- A row whose cells may be one's own, as trees. -/
def J8 (sto : Nat → Option Ob) (sn : List Nat) (sz len : Nat) : Option Ob → Option (List (List T))
 | some (.rowA s es) => if s = sz ∧ len = es.length then B6 sto sn es else none
 | _ => none

/-- A caller's value as a callee is told it: rows of one's own as trees. 'sn': the rows that are shown so. -/
def Wk (sto : Nat → Option Ob) (sn : List Nat) : AV → AV → Prop
 | .own id sz off len r, .t (.sl sz' es) => sz = sz' ∧ ((B1 sz sto (.own id sz off len r) = some es ∧ (id ∈ sn ∨ ∃ s es, sto id = some (.fro s es) ∨ sto id = some (.row s false es))) ∨ (id ∈ sn ∧ off = 0 ∧ J8 sto sn sz len (sto id) = some es))
 | .t (.v (.slice none 0 0)), .t (.sl _ es) => es = []
 | x, y => x = y

/-- The same, within structs. -/
inductive Wks (sto : Nat → Option Ob) (sn : List Nat) : List AV → List AV → Prop
 | nil : Wks sto sn [] []
 | one {x y : AV} {xs ys : List AV} : Wk sto sn x y → Wks sto sn xs ys → Wks sto sn (x :: xs) (y :: ys)
 | ag {cs ds xs ys : List AV} : Wks sto sn cs ds → Wks sto sn xs ys → Wks sto sn (.ag cs :: xs) (.ag ds :: ys)

mutual
/-- No slice that is a tree, no pointer at one. -/
def AV.plain : AV → Bool
 | .t (.v _) => true
 | .t (.sl _ _) => false
 | .ag cs => B59 cs
 | .tp cs => B59 cs
 | .ipt _ => false
 | .fn _ a b => B59 a && B59 b
 | _ => true
def B59 : List AV → Bool
 | [] => true
 | x :: xs => x.plain && B59 xs
end

def T.plain : T → Bool
 | .v _ => true
 | .sl _ _ => false

def Ob.plain : Ob → Prop
 | .box cs => B59 cs = true
 | .row _ _ es => ∀ e ∈ es, ∀ c ∈ e, c.plain = true
 | _ => False

section
variable {P : Program} {E : Env} {F : Frm} {sto : Nat → Option Ob} {w : World} {A A' : Nat → Prop} {φ φ' : Nat → Nat}

mutual
theorem CA.plain : ∀ {x : AV} {v : Value}, x.plain = true → (∀ i ∈ x.ids, φ' i = φ i) → CA A φ w x v → CA A' φ' w x v
 | .t (.v _), _, _, _, h => by simpa only [CA, CT] using h
 | .t (.sl _ _), _, h, _, _ => by simp [AV.plain] at h
 | .ag cs, v, h, hi, hx => by
  simp only [CA] at hx ⊢; obtain ⟨ys, rfl, hx⟩ := hx
  exact ⟨ys, rfl, H7.plain (by simpa only [AV.plain] using h) (by simpa only [AV.ids] using hi) hx⟩
 | .tp cs, v, h, hi, hx => by
  simp only [CA] at hx ⊢; obtain ⟨ys, rfl, hx⟩ := hx
  exact ⟨ys, rfl, H7.plain (by simpa only [AV.plain] using h) (by simpa only [AV.ids] using hi) hx⟩
 | .ptr i o, v, _, hi, hx => by simp only [CA] at hx ⊢; rw [hi i (by simp [AV.ids])]; exact hx
 | .ept i s j o, v, _, hi, hx => by simp only [CA] at hx ⊢; rw [hi i (by simp [AV.ids])]; exact hx
 | .ipt _, _, h, _, _ => by simp [AV.plain] at h
 | .own i s o l r, v, _, hi, hx => by simp only [CA] at hx ⊢; rw [hi i (by simp [AV.ids])]; exact hx
 | .fn f a b, v, h, hi, hx => by
  simp only [CA] at hx ⊢; obtain ⟨us, ys, rfl, h1, h2⟩ := hx
  simp only [AV.plain, Bool.and_eq_true] at h
  exact ⟨us, ys, rfl, H7.plain h.1 (fun i hm => hi i (by simp [AV.ids, hm])) h1, H7.plain h.2 (fun i hm => hi i (by simp [AV.ids, hm])) h2⟩
 | .ifc _, _, _, _, hx => by simpa only [CA] using hx
 | .undef, _, _, _, _ => by simp only [CA]
theorem H7.plain : ∀ {xs : List AV} {vs : List Value}, B59 xs = true → (∀ i ∈ B5 xs, φ' i = φ i) → H7 A φ w xs vs → H7 A' φ' w xs vs
 | [], _, _, _, h => by simpa only [H7] using h
 | x :: xs, vs, h, hi, hx => by
  simp only [H7] at hx ⊢
  simp only [B59, Bool.and_eq_true] at h
  obtain ⟨z, zs, rfl, h1, h2⟩ := hx
  exact ⟨z, zs, rfl, CA.plain h.1 (fun i hm => hi i (by simp [B5, hm])) h1, H7.plain h.2 (fun i hm => hi i (by simp [B5, hm])) h2⟩
end

theorem D0.plain {b : Nat} : ∀ {cs : List T} {o : Nat}, (∀ c ∈ cs, c.plain = true) → D0 A w b o cs → D0 A' w b o cs
 | [], _, _, _ => by simp only [D0]
 | c :: cs, o, hp, h => by
  simp only [D0] at h ⊢
  obtain ⟨⟨y, hy, hc⟩, hr⟩ := h
  refine ⟨⟨y, hy, ?_⟩, D0.plain (fun d hd => hp d (by simp [hd])) hr⟩
  have := hp c (by simp)
  cases c with
  | v x => simpa only [CT] using hc
  | sl s es => simp [T.plain] at this

theorem E5.plain {sz b : Nat} : ∀ {es : List (List T)} {o : Nat}, (∀ e ∈ es, ∀ c ∈ e, c.plain = true) → E5 A w sz b o es → E5 A' w sz b o es
 | [], _, _, _ => by simp only [E5]
 | e :: es, o, hp, h => by
  simp only [E5] at h ⊢
  exact ⟨⟨h.1.1, D0.plain (hp e (by simp)) h.1.2⟩, E5.plain (fun d hd => hp d (by simp [hd])) h.2⟩

theorem CO.plain {b : Nat} {o : Ob} (hp : o.plain) (hi : ∀ i ∈ o.ids, φ' i = φ i) (h : CO A φ w b o) : CO A' φ' w b o := by
 cases o with
 | box cs =>
  simp only [CO] at h ⊢
  obtain ⟨ys, e, h1, h2, h3⟩ := h
  exact ⟨ys, e, h1, H7.plain hp (by simpa only [Ob.ids] using hi) h2, h3⟩
 | row s r es =>
  simp only [CO] at h ⊢
  exact ⟨h.1, fun hr => ⟨(h.2 hr).1, E5.plain hp (h.2 hr).2⟩⟩
 | fro s es => simp [Ob.plain] at hp
 | rowA s es => simp [Ob.plain] at hp
 | dead => simp [Ob.plain] at hp

/-- Blocks that a callee may look at: the rows that are shown join those that are never written. -/
def A2s (A : Nat → Prop) (φ : Nat → Nat) (sn : List Nat) : Nat → Prop := fun b => A b ∨ ∃ i ∈ sn, b = φ i

theorem A1p (sn : List Nat) : Goes A (A2s A φ sn) w w := ⟨fun _ h => ⟨Or.inl h, rfl⟩, fun _ _ h => h⟩

theorem D8v (h : RS E F sto w A φ) {sn : List Nat} {id sz off len : Nat} {r : Bool} {es : List (List T)} {v : Value} (hs : B1 sz sto (.own id sz off len r) = some es) (hid : id ∈ sn ∨ ∃ s es, sto id = some (.fro s es) ∨ sto id = some (.row s false es)) (hx : CA A φ w (.own id sz off len r) v) :
  CT (A2s A φ sn) w (.sl sz es) v := by
  simp only [CA] at hx
  obtain ⟨a, cap, rfl, hle, hrf, hroom⟩ := hx
  simp only [B1, AV.asOwn, if_true] at hs
  unfold B3 at hs
  simp only [CT]
  split at hs
  ·rename_i s' real es' hob
   split at hs
   ·rename_i hc
    obtain ⟨rfl, hfit⟩ := hc
    injection hs with hs
    have hlen : es.length = len := by rw [← hs]; simp; omega
    have hco := h.obj id _ hob
    simp only [CO] at hco
    refine ⟨a, cap, by rw [hlen], by omega, ?_⟩
    cases real with
    | false =>
     have := hco.1 rfl; subst this
     left; simpa using hs.symm
    | true =>
     rcases hroom with hroom | ⟨ha, _⟩
     ·left; apply List.eq_nil_of_length_eq_zero; omega
     ·have hsn : id ∈ sn := by
       rcases hid with hid | ⟨s, es, hid | hid⟩
       ·exact hid
       ·rw [hob] at hid; cases hid
       ·rw [hob] at hid; cases hid
      right
      refine ⟨φ id, off * s', ha, Or.inr ⟨id, hsn, rfl⟩, ?_⟩
      have := ((hco.2 rfl).2.drop off).take len
      rw [hs, Nat.zero_add] at this
      exact E5.keeps (A1p sn).keeps rfl _ _ _ this
   ·simp at hs
  ·rename_i s' es' hob
   split at hs
   ·rename_i hc
    obtain ⟨rfl, hfit⟩ := hc
    injection hs with hs
    have hlen : es.length = len := by rw [← hs]; simp; omega
    have hco := h.obj id _ hob
    simp only [CO] at hco
    refine ⟨a, cap, by rw [hlen], by omega, ?_⟩
    rcases hroom with hroom | ⟨ha, _⟩
    ·left; apply List.eq_nil_of_length_eq_zero; omega
    ·right
     refine ⟨φ id, off * s', ha, Or.inl hco.1, ?_⟩
     have := (hco.2.drop off).take len
     rw [hs, Nat.zero_add] at this
     exact E5.keeps (A1p sn).keeps rfl _ _ _ this
   ·simp at hs
  ·simp at hs

theorem D6y (h : RS E F sto w A φ) {sn : List Nat} {x : AV} {t : T} {v : Value} (ht : B8 sto sn x = some t) (hx : CA A φ w x v) : CT (A2s A φ sn) w t v := by
 cases x with
 | t y =>
  simp only [B8, Option.some.injEq] at ht; subst ht
  exact CT.keeps (A1p (φ := φ) sn).keeps _ _ (by simpa only [CA] using hx)
 | own id sz off len r =>
  simp only [B8] at ht
  split at ht
  ·rename_i h0; subst h0
   injection ht with ht; subst ht
   simp only [CA] at hx
   obtain ⟨a, cap, rfl, hle, _⟩ := hx
   simp only [CT]
   exact ⟨a, cap, rfl, Nat.zero_le _, Or.inl trivial⟩
  ·split at ht
   ·rename_i hin
    obtain ⟨es, hes, rfl⟩ := Option.map_eq_some_iff.1 ht
    exact D8v h (by simp only [B1, AV.asOwn, if_true]; exact hes) (Or.inl hin) hx
   ·cases ht
 | _ => simp [B8] at ht

theorem C7p (h : RS E F sto w A φ) {sn : List Nat} {b : Nat} : ∀ {cs : List AV} {ts : List T} {vals : List Value} {o : Nat}, B4 sto sn cs = some ts → H7 A φ w cs vals → (∀ (k : Nat) v, vals[k]? = some v → w.cell? ⟨b, o + k, none⟩ = some v) → ts.length = cs.length ∧ D0 (A2s A φ sn) w b o ts
 | [], ts, _, _, ht, _, _ => by simp only [B4, Option.some.injEq] at ht; subst ht; simp [D0]
 | c :: cs, ts, vals, o, ht, hx, hc => by
  simp only [B4] at ht
  split at ht
  ·rename_i a as h1 h2
   injection ht with ht; subst ht
   simp only [H7] at hx
   obtain ⟨z, zs, rfl, g1, g2⟩ := hx
   obtain ⟨l, r⟩ := C7p h (o := o + 1) h2 g2 fun k v hv => by
    have := hc (k + 1) v (by simpa using hv)
    rwa [show o + (k + 1) = o + 1 + k by omega] at this
   simp only [D0, List.length_cons, l]
   exact ⟨trivial, ⟨z, by simpa using hc 0 z rfl, D6y h h1 g1⟩, r⟩
  ·cases ht

theorem D2k (h : RS E F sto w A φ) {sn : List Nat} {b sz : Nat} : ∀ {es : List (List AV)} {ts : List (List T)} {vals : List Value} {o : Nat}, B6 sto sn es = some ts → (∀ x ∈ es, x.length = sz) → H7 A φ w es.flatten vals → (∀ (k : Nat) v, vals[k]? = some v → w.cell? ⟨b, o + k, none⟩ = some v) → ts.length = es.length ∧ E5 (A2s A φ sn) w sz b o ts
 | [], ts, _, _, ht, _, _, _ => by simp only [B6, Option.some.injEq] at ht; subst ht; simp [E5]
 | e :: es, ts, vals, o, ht, hl, hx, hc => by
  simp only [B6] at ht
  split at ht
  ·rename_i a as h1 h2
   injection ht with ht; subst ht
   rw [List.flatten_cons] at hx
   have x1 := hx.take e.length
   have x2 := hx.drop e.length
   rw [List.take_left] at x1
   rw [List.drop_left] at x2
   have hes := hl e (by simp)
   obtain ⟨l1, r1⟩ := C7p h (b := b) (o := o) h1 x1 fun k v hv => by
    rw [List.getElem?_take] at hv
    split at hv
    ·exact hc k v hv
    ·cases hv
   obtain ⟨l2, r2⟩ := D2k h (b := b) (o := o + sz) h2 (fun x hx => hl x (by simp [hx])) x2 fun k v hv => by
    rw [List.getElem?_drop, hes] at hv
    have := hc _ v hv
    rwa [show o + (sz + k) = o + sz + k by omega] at this
   simp only [E5, List.length_cons, l2]
   exact ⟨trivial, ⟨by rw [l1, hes], r1⟩, r2⟩
  ·cases ht

theorem E1d (h : RS E F sto w A φ) {sn : List Nat} {id sz len : Nat} {r : Bool} {es : List (List T)} {v : Value} (hid : id ∈ sn) (hs : J8 sto sn sz len (sto id) = some es) (hx : CA A φ w (.own id sz 0 len r) v) : CT (A2s A φ sn) w (.sl sz es) v := by
 unfold J8 at hs
 split at hs
 ·rename_i s xs hob
  split at hs
  ·rename_i hc
   obtain ⟨rfl, hlen⟩ := hc
   simp only [CA] at hx
   obtain ⟨a, cap, rfl, hle, hrf, hroom⟩ := hx
   have hco := h.obj id _ hob
   simp only [CO] at hco
   obtain ⟨hl, ys, e, g1, pre, post, g2, g3, _⟩ := hco
   obtain ⟨l, hr⟩ := D2k h (b := φ id) (o := 0) hs hl g3 fun k v hv => by
    rw [D9 g1, ← Array.getElem?_toList, g2, Nat.zero_add, List.getElem?_append_left (List.getElem?_eq_some_iff.1 hv).1]; exact hv
   simp only [CT]
   refine ⟨a, cap, by rw [l, hlen], by omega, ?_⟩
   rcases hroom with hroom | ⟨ha, _⟩
   ·left; apply List.eq_nil_of_length_eq_zero; omega
   ·exact Or.inr ⟨φ id, 0, by simpa using ha, Or.inr ⟨id, hid, rfl⟩, hr⟩
  ·cases hs
 ·cases hs

theorem Wk.ok (h : RS E F sto w A φ) {sn : List Nat} {x y : AV} {v : Value} (hk : Wk sto sn x y) (hx : CA A φ w x v) : CA (A2s A φ sn) φ w y v := by
 have same : x = y → CA (A2s A φ sn) φ w y v := fun e => by rw [← e]; exact CA.goes (A1p sn) x v (fun _ _ => rfl) hx
 unfold Wk at hk
 split at hk
 ·rename_i id sz off len r sz' es
  obtain ⟨rfl, ⟨hs, hid⟩ | ⟨hid, rfl, hs⟩⟩ := hk
  ·simp only [CA]; exact D8v h hs hid hx
  ·simp only [CA]; exact E1d h hid hs hx
 ·subst hk
  simp only [CA, CT]
  rw [(U3 hx).1]
  exact ⟨none, 0, rfl, by simp, Or.inl trivial⟩
 ·exact same hk

theorem Wks.ok (h : RS E F sto w A φ) {sn : List Nat} {xs ys : List AV} (hk : Wks sto sn xs ys) : ∀ {vs : List Value}, H7 A φ w xs vs → H7 (A2s A φ sn) φ w ys vs := by
 induction hk with
 | nil => intro vs hx; simpa only [H7] using hx
 | one h1 _ ih =>
  intro vs hx
  simp only [H7] at hx ⊢
  obtain ⟨z, zs, rfl, h2, h3⟩ := hx
  exact ⟨z, zs, rfl, h1.ok h h2, ih h3⟩
 | ag _ _ ih1 ih2 =>
  intro vs hx
  simp only [H7] at hx ⊢
  obtain ⟨z, zs, rfl, h2, h3⟩ := hx
  simp only [CA] at h2
  obtain ⟨us, rfl, h2⟩ := h2
  exact ⟨_, zs, rfl, by simp only [CA]; exact ⟨us, rfl, ih1 h2⟩, ih2 h3⟩

/-- The store behind a call. -/
def A2f (sto : Nat → Option Ob) : List Nat → List (Nat × Ob)
 | [] => []
 | i :: l => (match sto i with
  | some (.row sz true es) => [(i, Ob.fro sz es)]
  | some (.rowA _ _) => [(i, Ob.dead)]
  | _ => []) ++ A2f sto l

/-- What is asked of a call. -/
structure CallOk (P : Program) (E : Env) (sto : Nat → Option Ob) (f : FuncId) (xs : List AV) (r : AV) (ins outs : List (Nat × Ob)) (sn : List Nat) (keep : Bool) (ys : List AV) : Prop where
 meets : Meets P E f ys ins r outs
 wk : Wks sto sn xs ys
 insOk : ∀ id ∈ A4 ins, sto id = A9 ins id
 newOk : ∀ id ∈ A4 outs, id ∈ A4 ins ∨ (sto id = none ∧ 100 ≤ id)
 snOk : ∀ i ∈ sn, 100 ≤ i ∧ i ∉ A4 ins ∧ A2d (sto i) = true
 keepOk : keep = true → r.plain = true ∧ ∀ id o, A9 outs id = some o → o.plain
 nd : (A4 outs).Nodup

/-- The store, with some objects in the place of what it had. -/
def A4o (l : List (Nat × Ob)) (sto : Nat → Option Ob) : Nat → Option Ob := fun k => match A9 l k with
 | some o => some o
 | none => sto k

theorem C0n : ∀ {l : List (Nat × Ob)} {sto : Nat → Option Ob}, (A4 l).Nodup → G6 sto l = A4o l sto
 | [], sto, _ => by funext k; simp [G6, A4o, A9]
 | (i, o) :: l, sto, h => by
  simp only [A4, List.map_cons, List.nodup_cons] at h
  simp only [G6]
  rw [C0n h.2]
  funext k
  simp only [A4o, A9]
  by_cases hk : k = i
  ·subst hk
   have : A9 l k = none := by
    cases hs : A9 l k with
    | none => rfl
    | some o => exact absurd (D8.1 (by rw [hs]; rfl)) h.1
   simp [this]
  ·simp only [if_neg hk]
   split <;> simp [D5 _ _ hk]

theorem D42 {sn : List Nat} {k : Nat} {o : Ob} (h : A9 (A2f sto sn) k = some o) : k ∈ sn ∧ ((∃ sz es, sto k = some (.row sz true es) ∧ o = .fro sz es) ∨ o = .dead) := by
 induction sn with
 | nil => simp [A2f, A9] at h
 | cons i l ih =>
  simp only [A2f] at h
  split at h
  ·rename_i sz es hs
   simp only [List.singleton_append, A9] at h
   split at h
   ·rename_i hk; subst hk
    injection h with h
    exact ⟨by simp, Or.inl ⟨sz, es, hs, h.symm⟩⟩
   ·obtain ⟨h1, h2⟩ := ih h
    exact ⟨by simp [h1], h2⟩
  ·simp only [List.singleton_append, A9] at h
   split at h
   ·rename_i hk; subst hk
    injection h with h
    exact ⟨by simp, Or.inr h.symm⟩
   ·obtain ⟨h1, h2⟩ := ih h
    exact ⟨by simp [h1], h2⟩
  ·simp only [List.nil_append] at h
   obtain ⟨h1, h2⟩ := ih h
   exact ⟨by simp [h1], h2⟩

theorem D6h {sn : List Nat} {k : Nat} (hk : k ∈ sn) (hs : A2d (sto k) = true) : (A9 (A2f sto sn) k).isSome = true := by
 induction sn with
 | nil => simp at hk
 | cons i l ih =>
  simp only [A2f]
  by_cases he : k = i
  ·subst he
   unfold A2d at hs
   split at hs
   ·rename_i hs2; subst hs; simp [hs2, A9]
   ·rename_i hs2; simp [hs2, A9]
   ·cases hs
  ·have hk' : k ∈ l := by rcases List.mem_cons.1 hk with h | h; exact absurd h he; exact h
   split
   ·simp only [List.singleton_append, A9, if_neg he]; exact ih hk'
   ·simp only [List.singleton_append, A9, if_neg he]; exact ih hk'
   ·simpa using ih hk'

theorem C8d {l : List (Nat × Ob)} {k : Nat} (h : (sto k).isSome = true) : (A4o l sto k).isSome = true := by
 unfold A4o; split <;> simp [h]

/-- What a call leaves in the abstract store. -/
def after (sto : Nat → Option Ob) (outs : List (Nat × Ob)) (sn : List Nat) (keep : Bool) : Nat → Option Ob :=
 A4o outs (if keep then sto else A4o (A2f sto sn) sto)

theorem E03 (h : RS E F sto w A φ) {f : FuncId} {xs ys : List AV} {r : AV} {ins outs : List (Nat × Ob)} {sn : List Nat} {keep : Bool} (hc : CallOk P E sto f xs r ins outs sn keep ys) {vals : Array Value} (hx : H7 A φ w xs vals.toList) :
  E10 P f vals w fun v w' => ∃ A' φ', Did E F sto A φ w r v (after sto outs sn keep) w' A' φ' := by
 obtain ⟨hm, hwk, hins, hnew, hsn, hkeep, hnd⟩ := hc
 -- the rows that are A2s are live, and their blocks are no others'
 have hsl : ∀ i ∈ sn, ∃ o, sto i = some o ∧ o.live = true := fun i hi => A96 (hsn i hi).2.2
 have hself : ∀ id o, A9 ins id = some o → sto id = some o := fun id o ho => by
  rw [hins id (D8.1 (by rw [ho]; rfl))]; exact ho
 have hA1 : ∀ b, E.gb b → A2s A φ sn b := fun b hb => Or.inl (h.gA b hb)
 have hA2 : ∀ b, A2s A φ sn b → b < w.heap.size := fun b hb => by
  rcases hb with hb | ⟨i, hi, rfl⟩
  ·exact h.alt b hb
  ·obtain ⟨o, hs, hlo⟩ := hsl i hi; exact (h.liv i _ hs hlo).2.1
 have hsep : ∀ id o, sto id = some o → o.live = true → id ∉ sn → ¬ A2s A φ sn (φ id) := fun id o ho hl hni hb => by
  rcases hb with hb | ⟨i, hi, hb⟩
  ·exact (h.liv id o ho hl).1 hb
  ·obtain ⟨o2, hs, hlo⟩ := hsl i hi
   exact h.inj id i o _ ho hs hl hlo (fun e => hni (e ▸ hi)) hb
 have hH : Holds (A2s A φ sn) φ w ins := {
  obj := fun id o ho => CO.goes (A1p sn) o (fun _ _ => rfl) (fun _ => rfl) (h.obj id o (hself id o ho))
  own := fun id o ho => ⟨hsep id o (hself id o ho) (hm.shutIn.live id o ho) (fun hi => (hsn id hi).2.1 (D8.1 (by rw [ho]; rfl))), (h.liv id o (hself id o ho) (hm.shutIn.live id o ho)).2.1⟩
  inj := fun i j hi hj hij => by
   obtain ⟨oi, hoi⟩ := Option.isSome_iff_exists.1 (D8.2 hi)
   obtain ⟨oj, hoj⟩ := Option.isSome_iff_exists.1 (D8.2 hj)
   exact h.inj i j oi oj (hself i oi hoi) (hself j oj hoj) (hm.shutIn.live i oi hoi) (hm.shutIn.live j oj hoj) hij }
 have hrun := hm.runs (A2s A φ sn) φ w vals h.gi hA1 hA2 hH (hwk.ok h hx)
 have fin : ∀ v w', (∃ A' φ', Fin E (A2s A φ sn) φ w ins r outs v w' A' φ') → ∃ A' φ', Did E F sto A φ w r v (after sto outs sn keep) w' A' φ' := by
  intro v w' ⟨A1, φ1, hf⟩
  obtain ⟨A2, hA2sub, hA2A, hA2back, hA2sn, hres, hobj⟩ : ∃ A2 : Nat → Prop, (∀ b, A2 b → A1 b) ∧ (∀ b, A b → A2 b) ∧ (∀ b, A2 b → b < w.heap.size → A2s A φ sn b ∧ (keep = true → A b)) ∧ (keep = false → ∀ b, A1 b → A2 b) ∧
    (∀ φ2 : Nat → Nat, (∀ i ∈ r.ids, φ2 i = φ1 i) → CA A2 φ2 w' r v) ∧ (∀ (φ2 : Nat → Nat) id o, A9 outs id = some o → (∀ i ∈ o.ids, φ2 i = φ1 i) → CO A2 φ2 w' (φ1 id) o) := by
   cases keep with
   | true =>
    obtain ⟨k1, k2⟩ := hkeep rfl
    refine ⟨fun b => A1 b ∧ (b < w.heap.size → A b), fun b hb => hb.1, fun b hb => ⟨(hf.go.keeps b (Or.inl hb)).1, fun _ => hb⟩, fun b hb hlt => ⟨Or.inl (hb.2 hlt), fun _ => hb.2 hlt⟩, fun hk => by simp at hk, fun φ2 hφ => CA.plain k1 hφ hf.ca, fun φ2 id o ho hφ => CO.plain (k2 id o ho) hφ (hf.holds.obj id o ho)⟩
   | false =>
    refine ⟨A1, fun b hb => hb, fun b hb => (hf.go.keeps b (Or.inl hb)).1, fun b hb hlt => ⟨?_, fun hk => by simp at hk⟩, fun _ b hb => hb, fun φ2 hφ => ?_, fun φ2 id o ho hφ => ?_⟩
    ·rcases hf.anew b hb with hb | hb
     ·exact hb
     ·omega
    ·exact CA.goes (Goes.refl A1 w') r v hφ hf.ca
    ·exact CO.goes (Goes.refl A1 w') o hφ (fun _ => rfl) (hf.holds.obj id o ho)
  have hg : Goes A A2 w w' := ⟨fun b hb => ⟨hA2A b hb, (hf.go.keeps b (Or.inl hb)).2⟩, hf.go.cap⟩
  have φout : ∀ id ∈ A4 outs, (if id ∈ A4 outs then φ1 id else φ id) = φ1 id := fun id hid => if_pos hid
  have φold : ∀ id, (sto id).isSome = true → (if id ∈ A4 outs then φ1 id else φ id) = φ id := fun id hs => by
   split
   ·rename_i hid
    rcases hnew id hid with hi | hn
    ·exact hf.agree id hi
    ·rw [hn.1] at hs; simp at hs
   ·rfl
  -- the store behind the call, by cases
  have haft : ∀ id o, after sto outs sn keep id = some o → (A9 outs id = some o) ∨ (A9 outs id = none ∧ ((id ∈ sn ∧ keep = false ∧ ((∃ sz es, sto id = some (.row sz true es) ∧ o = .fro sz es) ∨ o = .dead)) ∨ (sto id = some o ∧ (keep = true ∨ id ∉ sn)))) := by
   intro id o ho
   unfold after A4o at ho
   split at ho
   ·rename_i o' hs; injection ho with ho; subst ho; exact Or.inl hs
   ·rename_i hs
    refine Or.inr ⟨hs, ?_⟩
    cases keep with
    | true => simp at ho; exact Or.inr ⟨ho, Or.inl rfl⟩
    | false =>
     simp only [Bool.false_eq_true, if_false] at ho
     split at ho
     ·rename_i o' hs2
      injection ho with ho; subst ho
      obtain ⟨h1, h2⟩ := D42 hs2
      exact Or.inl ⟨h1, rfl, h2⟩
     ·rename_i hs2
      refine Or.inr ⟨ho, Or.inr fun hi => ?_⟩
      have hfg := D6h hi (hsn id hi).2.2
      rw [hs2] at hfg; cases hfg
  have hmono : ∀ id, (sto id).isSome = true → (after sto outs sn keep id).isSome = true := fun id hs => by
   unfold after
   refine C8d ?_
   cases keep with
   | true => exact hs
   | false => exact C8d hs
  have houtsome : ∀ id ∈ A4 outs, (after sto outs sn keep id).isSome = true := fun id hid => by
   obtain ⟨o, ho⟩ := Option.isSome_iff_exists.1 (D8.2 hid)
   simp [after, A4o, ho]
  have hkeepblk : ∀ id o, sto id = some o → o.live = true → id ∉ A4 outs → w'.heap[φ id]? = w.heap[φ id]? := fun id o ho hl hni => by
   refine hf.old _ (h.liv id o ho hl).2.1 fun k hk he => ?_
   obtain ⟨ok, hok⟩ := Option.isSome_iff_exists.1 (D8.2 hk)
   exact h.inj k id ok o (hself k ok hok) ho (hm.shutIn.live k ok hok) hl (fun e => hni (e ▸ hm.stay k hk)) he
  have hnotout : ∀ id, A9 outs id = none → id ∉ A4 outs := fun id hn hk => by rw [← D8, hn] at hk; simp at hk
  have hrs : RS E F (after sto outs sn keep) w' A2 (fun id => if id ∈ A4 outs then φ1 id else φ id) := {
   nod := fun id o ho j hj => by
    rcases haft id o ho with ho | ⟨hno, ⟨h1, h2, ⟨sz, es, h3, h4⟩ | h4⟩ | ⟨ho, _⟩⟩
    ·exact houtsome j (hm.shutOut.objs id o ho j hj)
    ·subst h4; simp [Ob.ids] at hj
    ·subst h4; simp [Ob.ids] at hj
    ·exact hmono j (h.nod id o ho j hj)
   obj := fun id o ho => by
    rcases haft id o ho with ho | ⟨hno, ⟨h1, h2, ⟨sz, es, h3, h4⟩ | h4⟩ | ⟨ho, _⟩⟩
    ·have hk := D8.1 (by rw [ho]; rfl : (A9 outs id).isSome = true)
     simp only [φout id hk]
     exact hobj _ id o ho fun i hi => φout i (hm.shutOut.objs id o ho i hi)
    ·subst h4
     have hni := hnotout id hno
     simp only [if_neg hni]
     have hob := h.obj id _ h3
     simp only [CO] at hob ⊢
     refine ⟨hA2sn h2 _ (hf.go.keeps _ (Or.inr ⟨id, h1, rfl⟩)).1, ?_⟩
     exact E5.keeps hg.keeps (hf.go.keeps _ (Or.inr ⟨id, h1, rfl⟩)).2 _ _ _ (hob.2 trivial).2
    ·subst h4; simp only [CO]
    ·have hni := hnotout id hno
     simp only [if_neg hni]
     exact CO.goes hg o (fun i hi => φold i (h.nod id o ho i hi)) (fun hl => hkeepblk id o ho hl hni) (h.obj id o ho)
   liv := fun id o ho hl => by
    rcases haft id o ho with ho | ⟨hno, ⟨h1, h2, ⟨sz, es, h3, h4⟩ | h4⟩ | ⟨ho, hks⟩⟩
    ·have hk := D8.1 (by rw [ho]; rfl : (A9 outs id).isSome = true)
     simp only [φout id hk]
     obtain ⟨o1, o2⟩ := hf.holds.own id o ho
     refine ⟨fun ha => o1 (hA2sub _ ha), o2, ?_⟩
     by_cases hi : id ∈ A4 ins
     ·rw [hf.agree id hi]
      obtain ⟨oi, hoi⟩ := Option.isSome_iff_exists.1 (D8.2 hi)
      exact (h.liv id oi (hself id oi hoi) (hm.shutIn.live id oi hoi)).2.2
     ·rcases hf.fresh id hk with hi' | hlt
      ·exact absurd hi' hi
      ·exact Or.inr (Nat.le_trans h.size hlt)
    ·subst h4; simp [Ob.live] at hl
    ·subst h4; simp [Ob.live] at hl
    ·have hni := hnotout id hno
     simp only [if_neg hni]
     have hlv := h.liv id o ho hl
     refine ⟨fun ha => ?_, Nat.lt_of_lt_of_le hlv.2.1 hf.size, hlv.2.2⟩
     obtain ⟨b1, b2⟩ := hA2back _ ha hlv.2.1
     rcases hks with hk | hk
     ·exact hlv.1 (b2 hk)
     ·exact hsep id o ho hl hk b1
   inj := fun i j oi oj hi hj li lj hij => by
    have loc : ∀ id o, after sto outs sn keep id = some o → o.live = true → (id ∈ A4 outs ∨ (id ∉ A4 outs ∧ sto id = some o)) := by
     intro id o ho hl
     rcases haft id o ho with ho | ⟨hno, ⟨h1, h2, ⟨sz, es, h3, h4⟩ | h4⟩ | ⟨ho, _⟩⟩
     ·exact Or.inl (D8.1 (by rw [ho]; rfl))
     ·subst h4; simp [Ob.live] at hl
     ·subst h4; simp [Ob.live] at hl
     ·exact Or.inr ⟨hnotout id hno, ho⟩
    have cross : ∀ p q oq, p ∈ A4 outs → q ∉ A4 outs → sto q = some oq → oq.live = true → φ1 p ≠ φ q := by
     intro p q oq hp hq hoq lq he
     rcases hf.fresh p hp with hin | hlt
     ·rw [hf.agree p hin] at he
      obtain ⟨ok, hok⟩ := Option.isSome_iff_exists.1 (D8.2 hin)
      exact h.inj p q ok oq (hself p ok hok) hoq (hm.shutIn.live p ok hok) lq (fun e => hq (e ▸ hp)) he
     ·have := (h.liv q oq hoq lq).2.1; omega
    rcases loc i oi hi li with hi' | ⟨hi', hsi⟩ <;> rcases loc j oj hj lj with hj' | ⟨hj', hsj⟩
    ·simp only [φout i hi', φout j hj']; exact hf.holds.inj i j hi' hj' hij
    ·simp only [φout i hi', if_neg hj']; exact cross i j oj hi' hj' hsj lj
    ·simp only [φout j hj', if_neg hi']; exact (cross j i oi hj' hi' hsi li).symm
    ·simp only [if_neg hi', if_neg hj']; exact h.inj i j oi oj hsi hsj li lj hij
   alt := fun b hb => hf.alt b (hA2sub b hb)
   gi := E.stable w w' (fun b hb => (hg.keeps b (h.gA b hb)).2) h.gi
   gA := fun b hb => hA2A b (h.gA b hb)
   os := hf.os.trans h.os
   tape := hf.tape.trans h.tape
   output := hf.output.trans h.output
   drawn := fun hc => Nat.le_trans (h.drawn hc) (hf.drawn hc)
   kept := fun p hp => by
    obtain ⟨k1, k2, k3, k4⟩ := h.kept p hp
    have cellsOf : ∀ id o, sto id = some o → o.live = true → φ id ≠ p.1 := fun id o ho hl e => by
     obtain ⟨ys, e', hb⟩ := CO.cells hl (h.obj id o ho)
     rw [e, k2] at hb; injection hb with hb; exact k3 _ _ _ hb
    have hlt := A88 k2
    refine ⟨k1, (hf.old p.1 hlt fun k hk => ?_).trans k2, k3, fun ha => ?_⟩
    ·obtain ⟨ok, hok⟩ := Option.isSome_iff_exists.1 (D8.2 hk)
     exact cellsOf k ok (hself k ok hok) (hm.shutIn.live k ok hok)
    ·obtain ⟨b1, _⟩ := hA2back _ ha hlt
     rcases b1 with b1 | ⟨i, hi, hb⟩
     ·exact k4 b1
     ·obtain ⟨o2, hs, hlo⟩ := hsl i hi
      exact cellsOf i _ hs hlo hb.symm
   vals := fun p hp => ⟨CA.goes hg _ _ (fun i hi => φold i ((h.vals p hp).2 i hi)) (h.vals p hp).1, fun i hi => hmono i ((h.vals p hp).2 i hi)⟩
   size := Nat.le_trans h.size hf.size
   old := fun b hb hne => by
    refine (hf.old b (Nat.lt_of_lt_of_le hb h.size) fun k hk he => ?_).trans (h.old b hb hne)
    obtain ⟨ok, hok⟩ := Option.isSome_iff_exists.1 (D8.2 hk)
    rcases (h.liv k ok (hself k ok hok) (hm.shutIn.live k ok hok)).2.2 with ⟨h1, h2⟩ | h1
    ·exact hne k h1 (by rw [← h2, he])
    ·omega
   asub := fun b hb => hA2A b (h.asub b hb)
   anew := fun b hb => by
    by_cases hlt : b < w.heap.size
    ·obtain ⟨b1, _⟩ := hA2back b hb hlt
     rcases b1 with b1 | ⟨i, hi, rfl⟩
     ·exact h.anew b b1
     ·obtain ⟨o2, hs, hlo⟩ := hsl i hi
      rcases (h.liv i _ hs hlo).2.2 with ⟨hio, _⟩ | hl
      ·have := h.ioc i hio; have := (hsn i hi).1; omega
      ·exact Or.inr hl
    ·exact Or.inr (by have := h.size; omega)
   cap := fun b n hb => hg.cap b n (h.cap b n hb)
   ioc := h.ioc
   iok := fun id o ho hl hio => by
    rcases haft id o ho with ho | ⟨hno, ⟨h1, h2, ⟨sz, es, h3, h4⟩ | h4⟩ | ⟨ho, _⟩⟩
    ·have hk := D8.1 (by rw [ho]; rfl : (A9 outs id).isSome = true)
     simp only [φout id hk]
     rcases hnew id hk with hi | hn
     ·rw [hf.agree id hi]
      obtain ⟨oi, hoi⟩ := Option.isSome_iff_exists.1 (D8.2 hi)
      exact h.iok id oi (hself id oi hoi) (hm.shutIn.live id oi hoi) hio
     ·have := h.ioc id hio; omega
    ·subst h4; simp [Ob.live] at hl
    ·subst h4; simp [Ob.live] at hl
    ·have hni := hnotout id hno
     simp only [if_neg hni]
     exact h.iok id o ho hl hio }
  refine ⟨A2, _, hrs, hg, fun id hs => φold id hs, hmono, hres _ fun i hi => φout i (hm.shutOut.vals i (by simpa [B5] using hi)), fun i hi => houtsome i (hm.shutOut.vals i (by simpa [B5] using hi))⟩
 rcases hrun with ⟨h1, h2⟩ | ⟨v, w', h1, h2⟩
 ·exact Or.inl ⟨h1, h2.mono fun e w' ⟨v, he, hf⟩ => ⟨v, he, fin v w' hf⟩⟩
 ·exact Or.inr ⟨v, w', h1, fin v w' h2⟩

end
end Go.Sx

namespace Go.Sx

/-- Names for objects. -/
def ren : List (Nat × Nat) → Nat → Nat
 | [], k => k
 | (i, j) :: l, k => if k = i then j else ren l k

mutual
/-- y says no more than x does. -/
def G1 (sto : Nat → Option Ob) (sn : List Nat) (π : Nat → Nat) : AV → AV → Prop
 | _, .undef => True
 | x, .t (.v v) => x = .t (.v v)
 | x, .t (.sl sz es) => x = .t (.sl sz es) ∨ (x.isNil = true ∧ es = []) ∨ (∃ id off len r, x = .own id sz off len r ∧ B1 sz sto x = some es ∧ (id ∈ sn ∨ ∃ s es, sto id = some (.fro s es) ∨ sto id = some (.row s false es))) ∨ (∃ id len r, x = .own id sz 0 len r ∧ id ∈ sn ∧ J8 sto sn sz len (sto id) = some es)
 | x, .ptr i o => x = .ptr (π i) o
 | x, .ept i s j o => x = .ept (π i) s j o
 | x, .ipt cs => x = .ipt cs
 | x, .ifc b => x = .ifc b
 | x, .own i s o l r => x = .own (π i) s o l r ∨ (x.isNil = true ∧ o = 0 ∧ l = 0 ∧ r = false)
 | .ag xs, .ag ys => G2 sto sn π xs ys
 | .tp xs, .tp ys => G2 sto sn π xs ys
 | .fn f a b, .fn f' a' b' => f = f' ∧ G2 sto sn π a a' ∧ G2 sto sn π b b'
 | _, _ => False
def G2 (sto : Nat → Option Ob) (sn : List Nat) (π : Nat → Nat) : List AV → List AV → Prop
 | [], [] => True
 | x :: xs, y :: ys => G1 sto sn π x y ∧ G2 sto sn π xs ys
 | _, _ => False
end

def A2j (sto : Nat → Option Ob) (sn : List Nat) (π : Nat → Nat) : List (List AV) → List (List AV) → Prop
 | [], [] => True
 | x :: xs, y :: ys => G2 sto sn π x y ∧ A2j sto sn π xs ys
 | _, _ => False

def wkO (sto : Nat → Option Ob) (sn : List Nat) (π : Nat → Nat) : Option Ob → Ob → Prop
 | some (.box xs), .box ys => G2 sto sn π xs ys ∧ ys.all AV.one = true
 | some (.row s r es), .row s' r' es' => s = s' ∧ r = r' ∧ es = es'
 | some (.fro s es), .fro s' es' => s = s' ∧ es = es'
 | some (.row s r es), .rowA s' es' => s = s' ∧ r = true ∧ A2j sto sn π (es.map (List.map AV.t)) es'
 | some (.rowA s es), .rowA s' es' => s = s' ∧ A2j sto sn π es es'
 | none, .row _ r es => r = false ∧ es = []
 | _, .dead => True
 | _, _ => False

/-- The objects of the lesser state. -/
structure SubO (sto sto' : Nat → Option Ob) (π : Nat → Nat) (sn : List Nat) : Prop where
 obj : ∀ id o, sto' id = some o → wkO sto sn π (sto (π id)) o
 nod : ∀ id o, sto' id = some o → ∀ j ∈ o.ids, (sto' j).isSome = true
 inj : ∀ i j oi oj, sto' i = some oi → sto' j = some oj → oi.live = true → oj.live = true → π i = π j → i = j
 snOk : ∀ i ∈ sn, 100 ≤ i ∧ A2d (sto i) = true ∧ ∀ id o, sto' id = some o → o.live = true → π id ≠ i

section
variable {E : Env} {F : Frm} {sto sto' : Nat → Option Ob} {w : World} {A : Nat → Prop} {φ : Nat → Nat} {π : Nat → Nat} {sn : List Nat} {ds : List Deferred}

theorem D1r {x : AV} (h : x.isNil = true) : x = .t (.v (.slice none 0 0)) := by
 unfold AV.isNil at h
 split at h
 ·rfl
 ·simp at h

mutual
theorem G1.ok (h : RS E F sto w A φ) : ∀ (x y : AV) (v : Value), G1 sto sn π x y → CA A φ w x v → CA (A2s A φ sn) (φ ∘ π) w y v
 | x, .undef, v, _, _ => by simp only [CA]
 | x, .t (.v u), v, hk, hx => by
  simp only [G1] at hk; subst hk
  simpa only [CA, CT] using hx
 | x, .t (.sl sz es), v, hk, hx => by
  simp only [G1] at hk
  have base : CA (A2s A φ sn) φ w (.t (.sl sz es)) v → CA (A2s A φ sn) (φ ∘ π) w (.t (.sl sz es)) v := fun h => by simpa only [CA] using h
  rcases hk with hk | ⟨hk, he⟩ | ⟨id, off, len, r, hk, hs, hid⟩ | ⟨id, len, r, hk, hid, hs⟩
  ·subst hk; exact base (CA.goes (A1p sn) _ v (fun _ _ => rfl) hx)
  ·subst he; rw [D1r hk] at hx
   exact base (Wk.ok (sn := sn) h (x := .t (.v (.slice none 0 0))) (y := .t (.sl sz [])) rfl hx)
  ·subst hk
   exact base (Wk.ok (sn := sn) h (x := .own id sz off len r) (y := .t (.sl sz es)) ⟨rfl, Or.inl ⟨hs, hid⟩⟩ hx)
  ·subst hk
   exact base (Wk.ok (sn := sn) h (x := .own id sz 0 len r) (y := .t (.sl sz es)) ⟨rfl, Or.inr ⟨hid, rfl, hs⟩⟩ hx)
 | x, .ptr i o, v, hk, hx => by
  simp only [G1] at hk; subst hk
  simpa only [CA, Function.comp] using hx
 | x, .ept i s j o, v, hk, hx => by
  simp only [G1] at hk; subst hk
  simpa only [CA, Function.comp] using hx
 | x, .ipt cs, v, hk, hx => by
  simp only [G1] at hk; subst hk
  have := CA.goes (φ' := φ ∘ π) (A1p (φ := φ) sn) _ v (fun i hi => by simp [AV.ids] at hi) hx
  exact this
 | x, .ifc b, v, hk, hx => by
  simp only [G1] at hk; subst hk
  simpa only [CA] using hx
 | x, .own i s o l r, v, hk, hx => by
  simp only [G1] at hk
  rcases hk with hk | ⟨hk, rfl, rfl, rfl⟩
  ·subst hk; simpa only [CA, Function.comp] using hx
  ·rw [D1r hk] at hx
   rw [(U3 hx).1]
   simp only [CA]
   exact ⟨none, 0, rfl, Nat.le_refl _, fun _ => rfl, Or.inl rfl⟩
 | .ag xs, .ag ys, v, hk, hx => by
  simp only [G1] at hk
  simp only [CA] at hx ⊢
  obtain ⟨us, rfl, hx⟩ := hx
  exact ⟨us, rfl, G2.ok h xs ys _ hk hx⟩
 | .tp xs, .tp ys, v, hk, hx => by
  simp only [G1] at hk
  simp only [CA] at hx ⊢
  obtain ⟨us, rfl, hx⟩ := hx
  exact ⟨us, rfl, G2.ok h xs ys _ hk hx⟩
 | .fn f a b, .fn f' a' b', v, hk, hx => by
  simp only [G1] at hk
  obtain ⟨rfl, h1, h2⟩ := hk
  simp only [CA] at hx ⊢
  obtain ⟨us, vs, rfl, g1, g2⟩ := hx
  exact ⟨us, vs, rfl, G2.ok h a a' _ h1 g1, G2.ok h b b' _ h2 g2⟩
 | .ifc _, .ag _, _, hk, _ | .t _, .ag _, _, hk, _ | .tp _, .ag _, _, hk, _ | .ptr _ _, .ag _, _, hk, _ | .ept _ _ _ _, .ag _, _, hk, _ | .ipt _, .ag _, _, hk, _ | .own _ _ _ _ _, .ag _, _, hk, _ | .fn _ _ _, .ag _, _, hk, _ | .undef, .ag _, _, hk, _ => by simp [G1] at hk
 | .ifc _, .tp _, _, hk, _ | .t _, .tp _, _, hk, _ | .ag _, .tp _, _, hk, _ | .ptr _ _, .tp _, _, hk, _ | .ept _ _ _ _, .tp _, _, hk, _ | .ipt _, .tp _, _, hk, _ | .own _ _ _ _ _, .tp _, _, hk, _ | .fn _ _ _, .tp _, _, hk, _ | .undef, .tp _, _, hk, _ => by simp [G1] at hk
 | .ifc _, .fn _ _ _, _, hk, _ | .t _, .fn _ _ _, _, hk, _ | .ag _, .fn _ _ _, _, hk, _ | .tp _, .fn _ _ _, _, hk, _ | .ptr _ _, .fn _ _ _, _, hk, _ | .ept _ _ _ _, .fn _ _ _, _, hk, _ | .ipt _, .fn _ _ _, _, hk, _ | .own _ _ _ _ _, .fn _ _ _, _, hk, _ | .undef, .fn _ _ _, _, hk, _ => by simp [G1] at hk
theorem G2.ok (h : RS E F sto w A φ) : ∀ (xs ys : List AV) (vs : List Value), G2 sto sn π xs ys → H7 A φ w xs vs → H7 (A2s A φ sn) (φ ∘ π) w ys vs
 | [], [], vs, _, hx => by simpa only [H7] using hx
 | [], _ :: _, _, hk, _ => by simp [G2] at hk
 | _ :: _, [], _, hk, _ => by simp [G2] at hk
 | x :: xs, y :: ys, vs, hk, hx => by
  simp only [G2] at hk
  simp only [H7] at hx ⊢
  obtain ⟨z, zs, rfl, h1, h2⟩ := hx
  exact ⟨z, zs, rfl, G1.ok h x y z hk.1 h1, G2.ok h xs ys zs hk.2 h2⟩
end

theorem D4q : ∀ {xs ys : List AV}, G2 sto sn π xs ys → ys.length = xs.length
 | [], [], _ => rfl
 | [], _ :: _, h => by simp [G2] at h
 | _ :: _, [], h => by simp [G2] at h
 | x :: xs, y :: ys, h => by simp only [G2] at h; simp [D4q h.2]

theorem D4w : ∀ {xs ys xs' ys' : List AV}, G2 sto sn π xs ys → G2 sto sn π xs' ys' → G2 sto sn π (xs ++ xs') (ys ++ ys')
 | [], [], _, _, _, h => h
 | [], _ :: _, _, _, h, _ => by simp [G2] at h
 | _ :: _, [], _, _, h, _ => by simp [G2] at h
 | x :: xs, y :: ys, _, _, h, k => by simp only [G2, List.cons_append] at h ⊢; exact ⟨h.1, D4w h.2 k⟩

theorem C1z : ∀ {xs ys : List (List AV)}, A2j sto sn π xs ys → G2 sto sn π xs.flatten ys.flatten
 | [], [], _ => by simp [G2]
 | [], _ :: _, h => by simp [A2j] at h
 | _ :: _, [], h => by simp [A2j] at h
 | x :: xs, y :: ys, h => by simp only [A2j] at h; simp only [List.flatten_cons]; exact D4w h.1 (C1z h.2)

theorem C1j {sz : Nat} : ∀ {xs ys : List (List AV)}, A2j sto sn π xs ys → (∀ x ∈ xs, x.length = sz) → ∀ y ∈ ys, y.length = sz
 | [], [], _, _ => by simp
 | [], _ :: _, h, _ => by simp [A2j] at h
 | _ :: _, [], h, _ => by simp [A2j] at h
 | x :: xs, y :: ys, h, hl => by
  simp only [A2j] at h
  intro z hz
  rcases List.mem_cons.1 hz with rfl | hz
  ·rw [D4q h.1]; exact hl x (by simp)
  ·exact C1j h.2 (fun q hq => hl q (by simp [hq])) z hz

theorem wkO.live {x : Option Ob} {y : Ob} (h : wkO sto sn π x y) (hl : y.live = true) : ∃ o, x = some o ∧ o.live = true := by
 unfold wkO at h
 split at h
 ·exact ⟨_, rfl, rfl⟩
 ·obtain ⟨rfl, rfl, rfl⟩ := h; exact ⟨_, rfl, hl⟩
 ·simp [Ob.live] at hl
 ·obtain ⟨rfl, rfl, _⟩ := h; exact ⟨_, rfl, rfl⟩
 ·exact ⟨_, rfl, rfl⟩
 ·simp [Ob.live] at hl; rw [h.1] at hl; simp at hl
 ·simp [Ob.live] at hl
 ·exact h.elim

/-- The lesser state stands for the same world. -/
theorem SubO.ok (hV : F.V = []) (h : RS E F sto w A φ) (hs : SubO sto sto' π sn) (hio : ∀ i ∈ F.io, (sto' i).isSome = true → π i = i ∧ i < 100) (hio2 : ∀ id o, sto' id = some o → o.live = true → π id ∈ F.io → id = π id) :
  RS E F sto' w (A2s A φ sn) (φ ∘ π) where
 nod := hs.nod
 obj := fun id o ho => by
  have hk := hs.obj id o ho
  unfold wkO at hk
  split at hk
  ·rename_i xs ys hx
   have hob := h.obj _ _ hx
   simp only [CO] at hob ⊢
   obtain ⟨us, e, h1, h2, h3⟩ := hob
   exact ⟨us, e, h1, G2.ok h xs ys _ hk.1 h2, h3⟩
  ·rename_i s r es s' r' es' hx
   obtain ⟨rfl, rfl, rfl⟩ := hk
   have hob := h.obj _ _ hx
   simp only [CO, Function.comp] at hob ⊢
   exact ⟨hob.1, fun hr => ⟨(hob.2 hr).1, E5.keeps (A1p sn).keeps rfl _ _ _ (hob.2 hr).2⟩⟩
  ·rename_i s es s' es' hx
   obtain ⟨rfl, rfl⟩ := hk
   have hob := h.obj _ _ hx
   simp only [CO, Function.comp] at hob ⊢
   exact ⟨Or.inl hob.1, E5.keeps (A1p sn).keeps rfl _ _ _ hob.2⟩
  ·rename_i s r es s' es' hx
   obtain ⟨rfl, rfl, hk⟩ := hk
   have hob := h.obj _ _ hx
   simp only [CO, Function.comp] at hob ⊢
   obtain ⟨⟨ys, e, hb⟩, hr⟩ := hob.2 trivial
   obtain ⟨vals, v1, v2, v3⟩ := hr.flatten.1.toCAs (φ := φ)
   have hpre : ys.toList = vals ++ ys.toList.drop vals.length := by
    have : ys.toList.take vals.length = vals := by
     apply List.ext_getElem?
     intro q
     rw [List.getElem?_take]
     split
     ·rename_i hq
      have hv := List.getElem?_eq_getElem hq
      have := v3 q _ hv
      rw [D9 hb, Nat.zero_add] at this
      rw [Array.getElem?_toList, this, hv]
     ·rw [List.getElem?_eq_none (by omega)]
    conv => lhs; rw [← List.take_append_drop vals.length ys.toList, this]
   have hlens : ∀ x ∈ es.map (List.map AV.t), x.length = s := fun x hx => by
    obtain ⟨c, hc, rfl⟩ := List.mem_map.1 hx
    rw [List.length_map]; exact hr.lens c hc
   refine ⟨fun x hx => C1j hk hlens x hx, ys, e, hb, vals, _, hpre, ?_, fun y hy => ?_⟩
   ·refine G2.ok h _ _ _ (C1z hk) ?_
    rw [← List.map_flatten]; exact v1
   ·obtain ⟨x, hx, hc⟩ := H7.mem v1 y hy
    obtain ⟨c, _, rfl⟩ := List.mem_map.1 hx
    simp only [CA] at hc; exact CT.oneCell hc
  ·rename_i s es s' es' hx
   obtain ⟨rfl, hk⟩ := hk
   have hob := h.obj _ _ hx
   simp only [CO, Function.comp] at hob ⊢
   obtain ⟨hl, ys, e, hb, pre, post, g2, g3, g4⟩ := hob
   refine ⟨fun x hx => C1j hk hl x hx, ys, e, hb, pre, post, g2, G2.ok h _ _ _ (C1z hk) g3, g4⟩
  ·obtain ⟨rfl, rfl⟩ := hk
   simp [CO]
  ·simp [CO]
  ·exact hk.elim
 liv := fun id o ho hl => by
  obtain ⟨o', ho', hl'⟩ := wkO.live (hs.obj id o ho) hl
  have hlv := h.liv _ o' ho' hl'
  refine ⟨fun hb => ?_, hlv.2.1, ?_⟩
  ·rcases hb with hb | ⟨i, hi, hb⟩
   ·exact hlv.1 hb
   ·obtain ⟨h1, h2', h3⟩ := hs.snOk i hi
    obtain ⟨oi, h2, hli⟩ := A96 h2'
    exact h.inj _ _ _ _ ho' h2 hl' hli (h3 id o ho hl) hb
  ·rcases hlv.2.2 with ⟨h1, h2⟩ | h1
   ·have e := hio2 id o ho hl h1
    left
    rw [← e] at h1 h2
    refine ⟨h1, ?_⟩
    simp only [Function.comp]
    rw [← e]; exact h2
   ·exact Or.inr h1
 inj := fun i j oi oj hi hj li lj hij => by
  obtain ⟨pi, hpi, lpi⟩ := wkO.live (hs.obj i oi hi) li
  obtain ⟨pj, hpj, lpj⟩ := wkO.live (hs.obj j oj hj) lj
  exact h.inj _ _ pi pj hpi hpj lpi lpj fun e => hij (hs.inj i j oi oj hi hj li lj e)
 alt := fun b hb => by
  rcases hb with hb | ⟨i, hi, rfl⟩
  ·exact h.alt b hb
  ·obtain ⟨_, h2', _⟩ := hs.snOk i hi; obtain ⟨oi, h2, hli⟩ := A96 h2'; exact (h.liv _ _ h2 hli).2.1
 gi := h.gi
 gA := fun b hb => Or.inl (h.gA b hb)
 os := h.os
 tape := h.tape
 output := h.output
 drawn := h.drawn
 kept := fun p hp => by
  obtain ⟨k1, k2, k3, k4⟩ := h.kept p hp
  refine ⟨k1, k2, k3, fun ha => ?_⟩
  rcases ha with ha | ⟨i, hi, ha⟩
  ·exact k4 ha
  ·obtain ⟨_, h2', _⟩ := hs.snOk i hi
   obtain ⟨oi, h2, hli⟩ := A96 h2'
   obtain ⟨ys, e, hb⟩ := CO.cells hli (h.obj i _ h2)
   rw [ha, hb] at k2; injection k2 with k2; exact k3 _ _ _ k2.symm
 vals := fun p hp => by rw [hV] at hp; simp at hp
 size := h.size
 old := h.old
 asub := fun b hb => Or.inl (h.asub b hb)
 anew := fun b hb => by
  rcases hb with hb | ⟨i, hi, rfl⟩
  ·exact h.anew b hb
  ·obtain ⟨h1, h2', _⟩ := hs.snOk i hi
   obtain ⟨oi, h2, hli⟩ := A96 h2'
   rcases (h.liv _ _ h2 hli).2.2 with ⟨h3, _⟩ | h3
   ·have := h.ioc i h3; omega
   ·exact Or.inr h3
 cap := h.cap
 ioc := h.ioc
 iok := fun id o ho hl hi => by
  obtain ⟨o', ho', hl'⟩ := wkO.live (hs.obj id o ho) hl
  have e := (hio id hi (by rw [ho]; rfl)).1
  have := h.iok _ o' ho' hl' (by rw [e]; exact hi)
  simp only [Function.comp]; rw [this, e]

/-- A lesser state. -/
structure Sub (io : List Nat) (s s' : St) : Prop where
 ex : ∃ (π : Nat → Nat) (sn : List Nat), SubO s.sto s'.sto π sn ∧ (∀ k, G1 s.sto sn π (s.env k) (s'.env k)) ∧ (∀ k, ∀ i ∈ (s'.env k).ids, (s'.sto i).isSome = true) ∧
  (∀ i ∈ io, π i = i) ∧ (∀ id, (s'.sto id).isSome = true → π id ∈ io → id = π id)

theorem Sub.ok {s s' : St} {n : Nat} {a : Act} (hV : F.V = []) (hs : Sub F.io s s') (h : RS E F s.sto w A φ) (r : RE ds s n a w A φ) : ∃ A' φ', RS E F s'.sto w A' φ' ∧ RE ds s' n a w A' φ' := by
 obtain ⟨π, sn, h1, h2, h3, h4, h5⟩ := hs.ex
 refine ⟨_, _, h1.ok hV h (fun i hi _ => ⟨h4 i hi, h.ioc i hi⟩) (fun id o ho _ hio => h5 id (by rw [ho]; rfl) hio), ⟨r.size, r.defers, fun k => G1.ok h _ _ _ (h2 k) (r.val k), h3⟩⟩
end
end Go.Sx

namespace Go.Sx

/-- All functions, any depth; in a round of a range over a function, or not. -/
def fnc (ro : Option Nat) : Fence := { Fence.wide with round := ro }

theorem D6p {P : Program} {f : FuncId} {args : Array Value} {w : World} {R : Ending → World → Prop} (ro : Option Nat) (n : Nat) (h : Calls P f args w R) : CallsIn (fnc ro) n P f args w R := by
 cases ro with
 | none => exact callsIn_wide.2 h
 | some l => exact CallsIn.mono (F := fnc (some l)) (callsIn_wide.2 h) (fun _ _ h => h)

inductive SK where
 | op (o : SOp)
 | call (f : SV) (args : List SV)
 deriving Inhabited

/-- A slim operation with its slot, and its guard's slot. -/
structure SO where
 dst : Option Nat
 k : SK
 guard : Option (Nat × Bool)
 deriving Inhabited

def SK.svs : SK → List SV
 | .op o => o.svs
 | .call f as => f :: as

def SO.svs (o : SO) : List SV := (match o.guard with
 | some (t, _) => [.tm t]
 | none => []) ++ o.k.svs

/-- What a step has done: its answer, the objects that it looked at, those that it wrote. -/
structure Rc where
 x : AV
 rd : List Nat
 wr : List (Nat × Ob)

def C9g (env : Nat → AV) : Option Nat → AV → (Nat → AV)
 | some d, x => upd env d x
 | none, _ => env

def St.app (st : St) (d : Option Nat) (rc : Rc) : St := ⟨C9g st.env d rc.x, A4o rc.wr st.sto⟩

/-- Does the guard let it run? -/
def A42 (g : Option (Nat × Bool)) (env : Nat → AV) : Option Bool :=
 match g with
 | none => some true
 | some (t, want) => match env t with
  | .t (.v (.bool b)) => some (b == want)
  | .tp [] => some false
  | _ => none

def C8g (P : Program) (E : Env) (id : Nat) (k : SK) (st : St) (rc : Rc) : Prop :=
 match k with
 | .op o => J9 id o (·.ev st.env) st.sto = some (rc.x, rc.wr) ∧ rc.rd = rds id o (·.ev st.env)
 | .call f as => ∃ g first caps, f.ev st.env = .fn g first caps ∧ ∃ ins outs sn keep ys, CallOk P E st.sto g (first ++ as.map (·.ev st.env) ++ caps) rc.x ins outs sn keep ys ∧
   rc.wr = outs ++ (if keep then [] else A2f st.sto sn) ∧ rc.rd = B5 (first ++ as.map (·.ev st.env) ++ caps) ++ A4 outs ++ sn

def Can (P : Program) (E : Env) (id : Nat) (o : SO) (st : St) (rc : Rc) : Prop :=
 match A42 o.guard st.env with
 | some false => rc = ⟨.tp [], [], []⟩
 | some true => C8g P E id o.k st rc
 | none => False

theorem D1a (a b : List (Nat × Ob)) (sto : Nat → Option Ob) : A4o (a ++ b) sto = A4o a (A4o b sto) := by
 funext k
 induction a with
 | nil => simp [A4o, A9]
 | cons p a ih =>
  obtain ⟨i, o⟩ := p
  simp only [A4o, List.cons_append, A9] at ih ⊢
  by_cases hk : k = i
  ·simp [hk]
  ·simp only [if_neg hk]; exact ih

theorem A9k {l : List (Nat × Ob)} {sto : Nat → Option Ob} {k : Nat} (h : k ∉ A4 l) : A4o l sto k = sto k := by
 unfold A4o
 cases hs : A9 l k with
 | none => rfl
 | some o => exact absurd (D8.1 (by rw [hs]; rfl)) h

theorem D6j {a b : List (Nat × Ob)} {sto : Nat → Option Ob} (h : ∀ i ∈ A4 a, i ∉ A4 b) : A4o a (A4o b sto) = A4o b (A4o a sto) := by
 funext k
 by_cases ha : k ∈ A4 a
 ·rw [A9k (h k ha)]
  simp only [A4o]
  obtain ⟨o, ho⟩ := Option.isSome_iff_exists.1 (D8.2 ha)
  simp [ho]
 ·rw [A9k ha]
  simp only [A4o]
  cases A9 b k with
  | some o => rfl
  | none =>
   have := A9k (sto := sto) ha
   simp only [A4o] at this
   simp [this]

theorem D2s {id : Nat} {o : SOp} {ρ : SV → AV} {sto : Nat → Option Ob} {x : AV} {wr : List (Nat × Ob)} (h : J9 id o ρ sto = some (x, wr)) : (A4 wr).Nodup := by
 cases o with
 | app sz bytes s y =>
  simp only [J9] at h
  split at h
  ·split at h
   ·split at h
    ·rename_i hj
     split at h
     ·rename_i hc
      simp only [Option.some.injEq, Prod.mk.injEq] at h
      obtain ⟨_, rfl⟩ := h
      obtain ⟨_, _, _, _, _, _, _, _, hn⟩ := hc
      simp only [A4, List.map_cons, List.map_nil, List.nodup_cons, List.mem_singleton, List.not_mem_nil, not_false_eq_true, List.nodup_nil, and_self, and_true]
      intro e; rw [e] at hj; rw [O7 hn] at hj; simp at hj
     ·simp at h
    ·rename_i hj
     split at h
     ·rename_i hc
      simp only [Option.some.injEq, Prod.mk.injEq] at h
      obtain ⟨_, rfl⟩ := h
      obtain ⟨_, _, _, _, _, _, _, hn⟩ := hc
      simp only [A4, List.map_cons, List.map_nil, List.nodup_cons, List.mem_singleton, List.not_mem_nil, not_false_eq_true, List.nodup_nil, and_self, and_true]
      intro e; rw [e] at hj; rw [O7 hn] at hj; simp at hj
     ·simp at h
    ·simp at h
   ·split at h
    ·simp only [Option.some.injEq, Prod.mk.injEq] at h
     obtain ⟨_, rfl⟩ := h
     simp [A4]
    ·simp at h
  ·simp at h
 | _ =>
  simp only [J9] at h
  repeat' split at h
  all_goals first
   | (simp only [Option.some.injEq, Prod.mk.injEq] at h; obtain ⟨_, rfl⟩ := h; simp [A4])
   | (simp only [Option.map_eq_some_iff] at h; obtain ⟨_, _, h⟩ := h; injection h with _ h; subst h; simp [A4])
   | simp at h

/-- Slots and objects apart: the two may change places. -/
structure Apart (o : SO) (r : Rc) (o' : SO) (r' : Rc) : Prop where
 d1 : ∀ d, o.dst = some d → (∀ k, SV.tm k ∈ o'.svs → k ≠ d) ∧ o'.dst ≠ some d
 d2 : ∀ d, o'.dst = some d → ∀ k, SV.tm k ∈ o.svs → k ≠ d
 w1 : ∀ i ∈ A4 r.wr, i ∉ r'.rd ∧ i ∉ A4 r'.wr
 w2 : ∀ i ∈ A4 r'.wr, i ∉ r.rd

section
variable {P : Program} {E : Env} {G : Nat → Option (List T)} {F : Frm} {ds : List Deferred}

theorem D16 {sto sto' : Nat → Option Ob} {sn : List Nat} (hn : ∀ i ∈ sn, sto' i = sto i) (x : AV) : B8 sto' sn x = B8 sto sn x := by
 cases x with
 | own id sz off len r =>
  simp only [B8]
  split
  ·rfl
  ·split
   ·rename_i h; rw [hn id h]
   ·rfl
 | _ => rfl

theorem B8w {sto sto' : Nat → Option Ob} {sn : List Nat} (hn : ∀ i ∈ sn, sto' i = sto i) : ∀ l : List AV, B4 sto' sn l = B4 sto sn l
 | [] => rfl
 | x :: l => by simp only [B4, D16 hn, B8w hn l]

theorem C26 {sto sto' : Nat → Option Ob} {sn : List Nat} (hn : ∀ i ∈ sn, sto' i = sto i) : ∀ l : List (List AV), B6 sto' sn l = B6 sto sn l
 | [] => rfl
 | x :: l => by simp only [B6, B8w hn, C26 hn l]

theorem D5l {sto sto' : Nat → Option Ob} {sn : List Nat} (hn : ∀ i ∈ sn, sto' i = sto i) (sz len : Nat) (o : Option Ob) : J8 sto' sn sz len o = J8 sto sn sz len o := by
 unfold J8
 split
 ·split
  ·exact C26 hn _
  ·rfl
 ·rfl

theorem Wk.local {sto sto' : Nat → Option Ob} {sn : List Nat} {x y : AV} (hn : ∀ i ∈ sn, sto' i = sto i) (hs : ∀ i ∈ x.ids, sto' i = sto i) (h : Wk sto sn x y) : Wk sto' sn x y := by
 unfold Wk at h ⊢
 split at h
 ·rename_i id sz off len r sz' es
  have e := hs id (by simp [AV.ids])
  simp only [B1, AV.asOwn] at h ⊢
  rw [e, D5l hn]; exact h
 ·exact h
 ·exact h

theorem Wks.local {sto sto' : Nat → Option Ob} {sn : List Nat} {xs ys : List AV} (hn : ∀ i ∈ sn, sto' i = sto i) (h : Wks sto sn xs ys) : (∀ i ∈ B5 xs, sto' i = sto i) → Wks sto' sn xs ys := by
 induction h with
 | nil => intro _; exact .nil
 | one h1 _ ih => intro hs; exact .one (h1.local hn fun i hi => hs i (by simp [B5, hi])) (ih fun i hi => hs i (by simp [B5, hi]))
 | ag _ _ ih1 ih2 => intro hs; exact .ag (ih1 fun i hi => hs i (by simp [B5, AV.ids, hi])) (ih2 fun i hi => hs i (by simp [B5, hi]))

theorem D7y {env env' : Nat → AV} {x : SV} (h : ∀ k, x = .tm k → env' k = env k) : x.ev env' = x.ev env := by
 cases x with
 | tm k => exact h k rfl
 | c y => rfl

theorem Can.local {id : Nat} {o : SO} {st st' : St} {rc : Rc} (h : Can P E id o st rc) (he : ∀ k, SV.tm k ∈ o.svs → st'.env k = st.env k) (hs : ∀ i ∈ rc.rd, st'.sto i = st.sto i) : Can P E id o st' rc := by
  have hw : A42 o.guard st'.env = A42 o.guard st.env := by
    unfold A42
    split
    · rfl
    · rename_i t want hg
      rw [he t (by simp [SO.svs, hg])]
  have hev : ∀ x ∈ o.k.svs, x.ev st'.env = x.ev st.env := fun x hx => D7y fun k hk => he k (by simp only [SO.svs, List.mem_append]; exact Or.inr (hk ▸ hx))
  unfold Can at h ⊢
  rw [hw]
  split at h
  · exact h
  · cases hk : o.k with
    | op so =>
      rw [hk] at h hev
      simp only [C8g] at h ⊢
      obtain ⟨h1, h2⟩ := h
      have := B8d (id := id) (o := so) (ρ := (·.ev st.env)) (ρ' := (·.ev st'.env)) (sto := st.sto) (sto' := st'.sto) (fun x hx => hev x hx) (fun i hi => hs i (by rw [h2]; exact hi))
      exact ⟨this.1.trans h1, h2.trans this.2.symm⟩
    | call f as =>
      rw [hk] at h hev
      simp only [C8g] at h ⊢
      obtain ⟨g, first, caps, h1, ins, outs, sn, keep, ys, hc, h2, h3⟩ := h
      have e1 : f.ev st'.env = f.ev st.env := hev f (by simp [SK.svs])
      have e2 : as.map (·.ev st'.env) = as.map (·.ev st.env) := List.map_congr_left fun x hx => hev x (by simp [SK.svs, hx])
      have hfz : A2f st'.sto sn = A2f st.sto sn := by
        have : ∀ i ∈ sn, st'.sto i = st.sto i := fun i hi => hs i (by rw [h3]; simp [hi])
        clear h2 h3 hc
        induction sn with
        | nil => rfl
        | cons i l ih => simp only [A2f]; rw [this i (by simp), ih fun j hj => this j (by simp [hj])]
      rw [e2]
      refine ⟨g, first, caps, e1.trans h1, ins, outs, sn, keep, ys, ?_, by rw [hfz]; exact h2, h3⟩
      have hout : ∀ i ∈ A4 outs, st'.sto i = st.sto i := fun i hi => hs i (by rw [h3]; simp [hi])
      exact { meets := hc.meets, wk := hc.wk.local (fun i hi => hs i (by rw [h3]; simp [hi])) fun i hi => hs i (by rw [h3]; exact List.mem_append.2 (Or.inl (List.mem_append.2 (Or.inl hi)))), insOk := fun i hi => (hout i (hc.meets.stay i hi)).trans (hc.insOk i hi)
              newOk := fun i hi => (hc.newOk i hi).imp (fun h => h) fun hn => ⟨(hout i hi).trans hn.1, hn.2⟩
              snOk := fun i hi => by
                obtain ⟨a1, a2, a3⟩ := hc.snOk i hi
                exact ⟨a1, a2, by rw [hs i (by rw [h3]; simp [hi])]; exact a3⟩
              keepOk := hc.keepOk, nd := hc.nd }
  · exact h.elim

/-- Two steps that are apart change places. -/
theorem E3h {i j : Nat} {o o' : SO} {r r' : Rc} {st : St} (ha : Apart o r o' r') (h1 : Can P E i o st r) (h2 : Can P E j o' (st.app o.dst r) r') :
  Can P E j o' st r' ∧ Can P E i o (st.app o'.dst r') r ∧ (st.app o.dst r).app o'.dst r' = (st.app o'.dst r').app o.dst r := by
 have envs : ∀ (d : Option Nat) (x : AV) (env : Nat → AV) (k : Nat), (∀ q, d = some q → k ≠ q) → C9g env d x k = env k := by
  intro d x env k h
  cases d with
  | none => rfl
  | some q => exact D5 _ _ (h q rfl)
 refine ⟨h2.local (fun k hk => ?_) (fun q hq => ?_), h1.local (fun k hk => ?_) (fun q hq => ?_), ?_⟩
 ·exact (envs o.dst r.x st.env k fun d hd => (ha.d1 d hd).1 k hk).symm
 ·refine (A9k fun hk => ?_).symm
  exact (ha.w1 q hk).1 hq
 ·exact envs o'.dst r'.x st.env k fun d hd => ha.d2 d hd k hk
 ·exact A9k fun hk => ha.w2 q hk hq
 ·unfold St.app
  simp only
  congr 1
  ·cases ho : o.dst with
   | none => simp [C9g]
   | some d =>
    cases ho' : o'.dst with
    | none => simp [C9g]
    | some d' =>
     have hne : d' ≠ d := fun e => (ha.d1 d ho).2 (by rw [ho', e])
     simp only [C9g]
     funext k
     unfold upd
     by_cases hk : k = d
     ·by_cases hk' : k = d'
      ·exact absurd (hk'.symm.trans hk) hne
      ·simp [hk, Ne.symm hne]
     ·simp [hk]
  ·exact (D6j fun q hq hk => (ha.w1 q hk).2 hq)

/-- Steps one behind the other. -/
def B4h (P : Program) (E : Env) : List (Nat × SO × Rc) → St → St → Prop
 | [], st, st' => st' = st
 | (i, o, r) :: l, st, st' => Can P E i o st r ∧ B4h P E l (st.app o.dst r) st'

theorem E14 {i : Nat} {o : SO} {r : Rc} {b : List (Nat × SO × Rc)} : ∀ {a : List (Nat × SO × Rc)} {st st' : St}, (∀ p ∈ a, Apart p.2.1 p.2.2 o r) → B4h P E (a ++ (i, o, r) :: b) st st' → B4h P E ((i, o, r) :: (a ++ b)) st st'
 | [], st, st', _, h => h
 | (j, o', r') :: a, st, st', ha, h => by
  simp only [List.cons_append, B4h] at h ⊢
  have ih := E14 (a := a) (fun p hp => ha p (by simp [hp])) h.2
  simp only [B4h] at ih
  obtain ⟨s1, s2, s3⟩ := E3h (ha (j, o', r') (by simp)) h.1 ih.1
  refine ⟨s1, s2, ?_⟩
  rw [← s3]; exact ih.2

/-- The machine does what a step says. -/
theorem D4z (hG : GOK E G) {st : St} {n : Nat} {a : Act} {w : World} {A : Nat → Prop} {φ : Nat → Nat} (h : RS E F st.sto w A φ) (r : RE ds st n a w A φ) {ops : Array Oper} {Q : Exit → Act → World → Prop} {K : Act → World → Prop} {i id : Nat} {o : Oper} {so : SO} {rc : Rc}
  (ho : ops[i]? = some o) (hd : so.dst = o.dst) (hdn : ∀ d, o.dst = some d → d < n)
  (hg : so.guard = match o.guard with | none => none | some (j, want) => ((ops[j]?).bind (·.dst)).map fun t => (t, want))
  (hgj : ∀ j want, o.guard = some (j, want) → ((ops[j]?).bind (·.dst)).isSome = true)
  (hk : match so.k with
   | .op x => x = .bad ∨ J5 P G o.op = some x
   | .call f as => ∃ xf xs ts, o.op = .call ⟨.value xf, xs, ts⟩ ∧ L9 G xf = some f ∧ A8o G xs.toList = some as)
  (hc : Can P E id so st rc)
  (hK : ∀ a' w' A' φ', RS E F (st.app so.dst rc).sto w' A' φ' → RE ds (st.app so.dst rc) n a' w' A' φ' → K a' w') {ro : Option Nat} {nn : Nat} : wpOpIn (fnc ro) nn P ops Q i K a w := by
 have hput : ∀ {v : Value} {w' : World} {A' : Nat → Prop} {φ' : Nat → Nat}, Did E F st.sto A φ w rc.x v (A4o rc.wr st.sto) w' A' φ' → K (a.put o.dst v) w' := by
  intro v w' A' φ' d
  refine hK _ _ A' φ' d.rs ?_
  unfold St.app
  rw [hd]
  cases hdst : o.dst with
  | none => exact r.put_none d.go d.ph d.mo
  | some q => exact r.put (hdn q hdst) d.go d.ph d.mo d.ca d.nd
 have hskip : rc = ⟨.tp [], [], []⟩ → K (a.put o.dst undef) w := by
  intro e
  refine hput (v := undef) (w' := w) (A' := A) (φ' := φ) ?_
  rw [e]
  exact Did.same h (by simp [CA, H7, undef]) (by simp [AV.ids, B5])
 -- what the guard says
 have hw : A42 so.guard st.env = some (Region.wanted o (yielded ops a.tmps)) ∨ A42 so.guard st.env = none := by
  rw [hg]
  cases hgo : o.guard with
  | none => simp [A42, Region.wanted, hgo]
  | some p =>
   obtain ⟨j, want⟩ := p
   obtain ⟨t, ht⟩ := Option.isSome_iff_exists.1 (hgj j want hgo)
   simp only [ht, Option.map_some, A42]
   split
   ·rename_i b hb
    left
    have hv := r.val t
    rw [hb] at hv
    have hv := (U3 hv).1
    have hget : a.tmps[t]? = some (.bool b) := by
     rw [Array.getD_eq_getD_getElem?] at hv
     cases hq : a.tmps[t]? with
     | none => rw [hq] at hv; simp [undef] at hv
     | some u => rw [hq] at hv; simp at hv; rw [hv]
    simp [Region.wanted, hgo, yielded, ht, hget]
   ·rename_i hb
    left
    have hv := r.val t
    rw [hb] at hv
    simp only [CA, H7] at hv
    obtain ⟨ys, hv, hy⟩ := hv
    rw [Array.getD_eq_getD_getElem?] at hv
    cases hq : a.tmps[t]? with
    | none => simp [Region.wanted, hgo, yielded, ht, hq]
    | some u => rw [hq] at hv; simp at hv; simp [Region.wanted, hgo, yielded, ht, hq, hv]
   ·exact Or.inr rfl
 unfold wpOpIn
 simp only [ho]
 unfold Can at hc
 rcases hw with hw | hw
 case inr => rw [hw] at hc; exact hc.elim
 rw [hw] at hc
 cases hb : Region.wanted o (yielded ops a.tmps) with
 | false =>
  rw [hb] at hc
  simp only [Bool.false_eq_true, if_false]
  exact ⟨fun _ _ => trivial, hskip hc⟩
 | true =>
  rw [hb] at hc
  simp only at hc
  simp only [if_true]
  refine ⟨fun _ _ => trivial, ?_⟩
  cases hkk : so.k with
  | op x =>
   rw [hkk] at hc hk
   simp only [C8g] at hc hk
   have hran := E2n hG h r (hk.resolve_left fun e => by rw [e] at hc; simp [J9] at hc) hc.1
   obtain ⟨nx, v, w', A', φ', hrun, hnx, hdid⟩ := hran
   rw [C0n (D2s hc.1)] at hdid
   rw [Oper.semAt_eq _ _ _ (fun c e => by
    have hk' := hk.resolve_left fun e => by rw [e] at hc; simp [J9] at hc
    rw [e] at hk'; simp [J5] at hk'), hrun]
   rcases hnx with rfl | ⟨rfl, rfl⟩
   ·exact hput hdid
   ·exact hput hdid
  | call f as =>
   rw [hkk] at hc hk
   simp only [C8g] at hc
   obtain ⟨xf, xs, ts, hop, hf, has⟩ := hk
   obtain ⟨g, first, caps, hfe, ins, outs, sn, keep, ys, hcall, hwr, hrd⟩ := hc
   have ef := (M9 hG h r hf).1
   rw [hfe] at ef
   simp only [CA] at ef
   obtain ⟨us, vs, hfv, hfirst, hcaps⟩ := ef
   have eas := (C1k hG h r has).1
   have hargs : H7 A φ w (first ++ as.map (·.ev st.env) ++ caps) (us ++ xs.map a.eval ++ vs).toList := by
    simp only [Array.toList_append, Array.toList_map]
    exact (hfirst.append eas).append hcaps
   have hruns := E03 h hcall hargs
   have hexec : (execOp a.eval o).run P w = (callFunc g (us ++ xs.map a.eval ++ vs)).run P w := by
    simp only [execOp, hop, resolve, Sem.run_bind, Sem.run_pure, Result.andThen_ok, hfv, Deferred.ofValue, invoke]
   have haft : after st.sto outs sn keep = A4o rc.wr st.sto := by
    rw [hwr, D1a]
    have e0 : A4o [] st.sto = st.sto := by funext k; simp [A4o, A9]
    unfold after
    cases keep with
    | false => rfl
    | true => simp only [if_true, e0]
   rw [Oper.semAt_eq _ _ _ (fun c e => by rw [hop] at e; cases e), hexec]
   rcases hruns with ⟨h1, h2⟩ | ⟨v, w', h1, A', φ', hdid⟩
   ·rw [h1]
    refine ⟨fun h => by simp [fnc, Fence.wide] at h, CallsIn.mono (D6p ro _ h2) ?_⟩
    rintro e w' ⟨v, he, A', φ', hdid⟩
    subst he
    rw [haft] at hdid
    exact hput hdid
   ·rw [h1]
    rw [haft] at hdid
    exact hput hdid

end
end Go.Sx

namespace Go.Sx

def D8q (ops : Array Oper) (g : Option (Nat × Bool)) : Option (Option (Nat × Bool)) :=
 match g with
 | none => some none
 | some (j, want) => match (ops[j]?).bind (·.dst) with
  | some t => some (some (t, want))
  | none => none

def E0x (P : Program) (G : Nat → Option (List T)) : Op → Option SK
 | .call ⟨.value f, args, _⟩ => match L9 G f, A8o G args.toList with
  | some f, some as => some (.call f as)
  | _, _ => none
 | op => some (.op ((J5 P G op).getD .bad))

def E0w (n : Nat) : Option Nat → Bool
 | some d => d < n
 | none => true

def B8a (P : Program) (G : Nat → Option (List T)) (n : Nat) (ops : Array Oper) (o : Oper) : Option SO :=
 match D8q ops o.guard, E0x P G o.op with
 | some g, some k => if E0w n o.dst then some ⟨o.dst, k, g⟩ else none
 | _, _ => none

def C0g (P : Program) (G : Nat → Option (List T)) (n : Nat) (ops : Array Oper) : List Oper → Option (List SO)
 | [] => some []
 | o :: l => match B8a P G n ops o, C0g P G n ops l with
  | some a, some b => some (a :: b)
  | _, _ => none

/-- Which operations stand ahead of which: bits. -/
def B35 (acc : List Nat) (o : Oper) : Nat := o.after.toList.foldl (fun s e => if Region.binds .any e then s ||| 2 ^ e.on ||| acc.getD e.on 0 else s) 0

def C3f (l : List Oper) : List Nat := l.foldl (fun acc o => acc ++ [B35 acc o]) []

def D4i (l : List Oper) : Bool := l.zipIdx.all fun p => p.1.after.toList.all fun e => !Region.binds .any e || decide (e.on < p.2)

def B99 (l : List SV) (d : Nat) : Bool := l.any fun
 | .tm k => k == d
 | .c _ => false

def C1c (o o' : SO) : Bool :=
  (match o.dst with
   | some d => !B99 o'.svs d && o'.dst != some d
   | none => true) &&
  (match o'.dst with
   | some d => !B99 o.svs d
   | none => true)

/-- No object is looked at or written. -/
def SK.quiet : SK → Bool
 | .op (.alloc _) | .op (.box _) | .op (.bsl ..) | .op (.mksl ..) | .op (.load ..) | .op (.store ..) | .op (.app ..) | .op (.cpy ..) | .op (.clr ..) => false
 | .op _ => true
 | .call .. => false

def SK.reads : SK → Bool
 | .op (.load ..) => true
 | _ => false

/-- The pairs of which something is to be shown. -/
def C9w (bef : List Nat) (l : List SO) : List (Nat × Nat) :=
 (l.zipIdx).flatMap fun p => ((l.take p.2).zipIdx).filterMap fun q =>
  if (bef.getD p.2 0).testBit q.2 || p.1.k.quiet || q.1.k.quiet || (p.1.k.reads && q.1.k.reads) then none else some (q.2, p.2)

def D4n (bef : List Nat) (l : List SO) : Bool :=
 (l.zipIdx).all fun p => ((l.take p.2).zipIdx).all fun q => (bef.getD p.2 0).testBit q.2 || C1c q.1 p.1

def C3x (P : Program) (G : Nat → Option (List T)) (n : Nat) (ops : Array Oper) (draw : Bool) : Option (List SO × List (Nat × Nat)) :=
 match C0g P G n ops ops.toList with
 | some l => if draw then (if D4i ops.toList && D4n (C3f ops.toList) l then some (l, C9w (C3f ops.toList) l) else none) else some (l, [])
 | none => none

/-- Two steps' objects are apart. -/
def B5s (a b : Rc) : Bool := (A4 a.wr).all (fun i => !b.rd.contains i && !(A4 b.wr).contains i) && (A4 b.wr).all fun i => !a.rd.contains i

section
variable {P : Program} {E : Env} {G : Nat → Option (List T)} {F : Frm} {ds : List Deferred}

theorem C2l {n : Nat} {ops : Array Oper} : ∀ {l : List Oper} {sos : List SO}, C0g P G n ops l = some sos → sos.length = l.length ∧ ∀ (i : Nat) (o : Oper), l[i]? = some o → ∃ so, sos[i]? = some so ∧ B8a P G n ops o = some so
 | [], sos, h => by simp [C0g] at h; subst h; simp
 | o :: l, sos, h => by
  simp only [C0g] at h
  split at h
  ·rename_i a b h1 h2
   injection h with h; subst h
   obtain ⟨g1, g2⟩ := C2l h2
   refine ⟨by simp [g1], fun i o' hi => ?_⟩
   cases i with
   | zero => simp at hi; subst hi; exact ⟨a, rfl, h1⟩
   | succ i => simpa using g2 i o' (by simpa using hi)
  ·simp at h

theorem B9n {n : Nat} {ops : Array Oper} {o : Oper} {so : SO} (h : B8a P G n ops o = some so) :
  so.dst = o.dst ∧ (∀ d, o.dst = some d → d < n) ∧ (so.guard = match o.guard with | none => none | some (j, want) => ((ops[j]?).bind (·.dst)).map fun t => (t, want)) ∧
  (∀ j want, o.guard = some (j, want) → ((ops[j]?).bind (·.dst)).isSome = true) ∧
  (match so.k with
   | .op x => x = .bad ∨ J5 P G o.op = some x
   | .call f as => ∃ xf xs ts, o.op = .call ⟨.value xf, xs, ts⟩ ∧ L9 G xf = some f ∧ A8o G xs.toList = some as) := by
 unfold B8a at h
 split at h
 ·rename_i g k hg hk
  split at h
  ·rename_i hd
   injection h with h; subst h
   refine ⟨rfl, fun d hdd => by rw [hdd] at hd; simpa [E0w] using hd, ?_, ?_, ?_⟩
   ·unfold D8q at hg
    split at hg
    ·rename_i hgo; injection hg with hg; subst hg; simp [hgo]
    ·rename_i j want hgo
     split at hg
     ·rename_i t ht; injection hg with hg; subst hg; simp [hgo, ht]
     ·simp at hg
   ·intro j want hgo
    unfold D8q at hg
    rw [hgo] at hg
    simp only at hg
    split at hg
    ·rename_i t ht; simp [ht]
    ·simp at hg
   ·unfold E0x at hk
    split at hk
    ·rename_i f args ts hop
     split at hk
     ·rename_i f' as' hf has
      injection hk with hk; subst hk
      exact ⟨f, args, ts, hop, hf, has⟩
     ·simp at hk
    ·injection hk with hk; subst hk
     cases hx : J5 P G o.op with
     | none => exact Or.inl rfl
     | some x => exact Or.inr rfl
  ·simp at h
 ·simp at h

theorem C7t {id : Nat} {o : SO} {st : St} {r : Rc} (hq : o.k.quiet = true) (h : Can P E id o st r) : r.rd = [] ∧ r.wr = [] := by
 unfold Can at h
 split at h
 ·subst h; exact ⟨rfl, rfl⟩
 ·unfold C8g at h
  cases hk : o.k with
  | call f as => rw [hk] at hq; simp [SK.quiet] at hq
  | op x =>
   rw [hk] at h hq
   simp only at h
   obtain ⟨h1, h2⟩ := h
   cases x <;> simp [SK.quiet] at hq <;> simp only [rds] at h2 <;> refine ⟨h2, ?_⟩ <;> simp only [J9] at h1
   all_goals
    repeat' split at h1
    all_goals first
     | (simp only [Option.some.injEq, Prod.mk.injEq] at h1; exact h1.2.symm)
     | (simp only [Option.map_eq_some_iff] at h1; obtain ⟨_, _, h1⟩ := h1; injection h1 with _ h1; exact h1.symm)
     | simp at h1
 ·exact h.elim

theorem C81 {id : Nat} {o : SO} {st : St} {r : Rc} (hq : o.k.reads = true) (h : Can P E id o st r) : r.wr = [] := by
 unfold Can at h
 split at h
 ·subst h; rfl
 ·unfold C8g at h
  cases hk : o.k with
  | call f as => rw [hk] at hq; simp [SK.reads] at hq
  | op x =>
   rw [hk] at h hq
   simp only at h
   obtain ⟨h1, h2⟩ := h
   cases x <;> simp [SK.reads] at hq
   simp only [J9] at h1
   repeat' split at h1
   all_goals first
    | (simp only [Option.some.injEq, Prod.mk.injEq] at h1; exact h1.2.symm)
    | (simp only [Option.map_eq_some_iff] at h1; obtain ⟨_, _, h1⟩ := h1; injection h1 with _ h1; exact h1.symm)
    | simp at h1
 ·exact h.elim

theorem B9e {l : List SV} {d : Nat} (h : B99 l d = false) : ∀ k, SV.tm k ∈ l → k ≠ d := by
 intro k hk e
 subst e
 have : B99 l k = true := by
  unfold B99
  rw [List.any_eq_true]
  exact ⟨.tm k, hk, by simp⟩
 rw [this] at h; simp at h

theorem D8b {o o' : SO} {r r' : Rc} (h1 : C1c o o' = true) (h2 : B5s r r' = true) : Apart o r o' r' := by
 unfold C1c at h1
 unfold B5s at h2
 simp only [Bool.and_eq_true, List.all_eq_true, Bool.not_eq_true', List.contains_eq_mem, decide_eq_false_iff_not] at h1 h2
 refine ⟨fun d hd => ?_, fun d hd => ?_, fun i hi => h2.1 i hi, fun i hi => h2.2 i hi⟩
 ·have := h1.1
  rw [hd] at this
  simp only [Bool.and_eq_true, Bool.not_eq_true', bne_iff_ne, ne_eq] at this
  exact ⟨B9e this.1, this.2⟩
 ·have := h1.2
  rw [hd] at this
  simp only [Bool.not_eq_true'] at this
  exact B9e this

/-- The steps of a region in the text's order, each with its own number. -/
def A3h (base : Nat) : List SO → List Rc → List (Nat × SO × Rc)
 | o :: l, r :: rs => (base, o, r) :: A3h (base + 1) l rs
 | _, _ => []

theorem C7c : ∀ {base : Nat} {l : List SO} {rs : List Rc} {i : Nat} {o : SO} {r : Rc}, l[i]? = some o → rs[i]? = some r → (A3h base l rs)[i]? = some (base + i, o, r)
 | _, [], _, _, _, _, h, _ => by simp at h
 | _, _ :: _, [], _, _, _, _, h => by simp at h
 | base, o :: l, r :: rs, 0, o', r', h1, h2 => by simp at h1 h2; subst h1; subst h2; simp [A3h]
 | base, o :: l, r :: rs, i + 1, o', r', h1, h2 => by
  have := C7c (base := base + 1) (l := l) (rs := rs) (i := i) (o := o') (r := r') (by simpa using h1) (by simpa using h2)
  simp only [A3h, List.getElem?_cons_succ, this]
  rw [show base + 1 + i = base + (i + 1) from by omega]

theorem C7q : ∀ {base : Nat} {l : List SO} {rs : List Rc}, rs.length = l.length → (A3h base l rs).length = l.length
 | _, [], [], _ => rfl
 | _, [], _ :: _, h => by simp at h
 | _, _ :: _, [], h => by simp at h
 | base, o :: l, r :: rs, h => by simp only [A3h, List.length_cons]; rw [C7q (by simpa using h)]

theorem C2y {ro : Option Nat} {nn : Nat} (hG : GOK E G) {st' : St} {n : Nat} {ops : Array Oper} {Q : Exit → Act → World → Prop} {base : Nat} (hQ : ∀ a' w' A' φ', RS E F st'.sto w' A' φ' → RE ds st' n a' w' A' φ' → Q .normal a' w')
  : ∀ (k : Nat) (sos : List SO) (rs : List Rc) (st : St) (a : Act) (w : World) (A : Nat → Prop) (φ : Nat → Nat), (∀ i o, sos[i]? = some o → ∃ x, ops[k + i]? = some x ∧ B8a P G n ops x = some o) → rs.length = sos.length →
   RS E F st.sto w A φ → RE ds st n a w A φ → B4h P E (A3h (base + k) sos rs) st st' → wpOpsIn (fnc ro) nn P ops Q (List.range' k sos.length) a w
 | k, [], [], st, a, w, A, φ, _, _, h, r, hr => by
  simp only [A3h, B4h] at hr
  subst hr
  simp only [List.length_nil, List.range'_zero, wpOpsIn]
  exact hQ a w A φ h r
 | k, [], _ :: _, _, _, _, _, _, _, hl, _, _, _ => by simp at hl
 | k, _ :: _, [], _, _, _, _, _, _, hl, _, _, _ => by simp at hl
 | k, o :: sos, rc :: rs, st, a, w, A, φ, ho, hl, h, r, hr => by
  simp only [A3h, B4h] at hr
  obtain ⟨x, hx, hsl⟩ := ho 0 o rfl
  rw [Nat.add_zero] at hx
  obtain ⟨f1, f2, f3, f4, f5⟩ := B9n hsl
  rw [List.length_cons, List.range'_succ, wpOpsIn_cons]
  refine D4z hG h r hx f1 f2 f3 f4 f5 hr.1 fun a' w' A' φ' h' r' => ?_
  refine C2y hG hQ (k + 1) sos rs _ a' w' A' φ' (fun i o' hi => ?_) (by simpa using hl) h' r' hr.2
  obtain ⟨y, hy, hys⟩ := ho (i + 1) o' (by simpa using hi)
  exact ⟨y, by rw [show k + 1 + i = k + (i + 1) from by omega]; exact hy, hys⟩

end
end Go.Sx

namespace Go.Sx

def B2i (acc : List Nat) (l : List Oper) : List Nat := l.foldl (fun acc o => acc ++ [B35 acc o]) acc

theorem B9q : ∀ (l : List Oper) (acc : List Nat), (B2i acc l).length = acc.length + l.length
 | [], acc => by simp [B2i]
 | o :: l, acc => by
  have := B9q l (acc ++ [B35 acc o])
  simp only [B2i, List.foldl_cons] at this ⊢
  rw [this]; simp; omega

theorem C50 : ∀ (l : List Oper) (acc : List Nat) (i : Nat), i < acc.length → (B2i acc l)[i]? = acc[i]?
 | [], acc, i, _ => by simp [B2i]
 | o :: l, acc, i, h => by
  have := C50 l (acc ++ [B35 acc o]) i (by simp; omega)
  simp only [B2i, List.foldl_cons] at this ⊢
  rw [this, List.getElem?_append_left h]

theorem C61 (l : List Oper) (acc : List Nat) (j : Nat) : B2i acc l = B2i (B2i acc (l.take j)) (l.drop j) := by
 unfold B2i
 rw [← List.foldl_append, List.take_append_drop]

theorem D7i (l : List Oper) (acc : List Nat) (j : Nat) (o : Oper) (h : l[j]? = some o) : (B2i acc l)[acc.length + j]? = some (B35 (B2i acc (l.take j)) o) := by
 have hj := (List.getElem?_eq_some_iff.1 h).1
 rw [C61 l acc j, List.drop_eq_getElem_cons hj]
 have hl : (B2i acc (l.take j)).length = acc.length + j := by rw [B9q]; simp; omega
 have ho : l[j] = o := (List.getElem?_eq_some_iff.1 h).2
 simp only [B2i, List.foldl_cons]
 have := C50 (l.drop (j + 1)) (B2i acc (l.take j) ++ [B35 (B2i acc (l.take j)) l[j]]) (acc.length + j) (by simp [hl])
 simp only [B2i] at this hl ⊢
 rw [this, List.getElem?_append_right (by omega)]
 simp [hl, ho]

theorem C86 (acc : List Nat) (x : Nat) : ∀ (es : List Edge) (s : Nat), (es.foldl (fun s e => if Region.binds .any e then s ||| 2 ^ e.on ||| acc.getD e.on 0 else s) s).testBit x = true →
  s.testBit x = true ∨ ∃ e ∈ es, Region.binds .any e = true ∧ (x = e.on ∨ (acc.getD e.on 0).testBit x = true)
 | [], s, h => Or.inl h
 | e :: es, s, h => by
  simp only [List.foldl_cons] at h
  rcases C86 acc x es _ h with h | ⟨e', he, h⟩
  ·split at h
   ·rename_i hb
    simp only [Nat.testBit_or, Bool.or_eq_true, Nat.testBit_two_pow, decide_eq_true_eq] at h
    rcases h with (h | h) | h
    ·exact Or.inl h
    ·exact Or.inr ⟨e, by simp, hb, Or.inl h.symm⟩
    ·exact Or.inr ⟨e, by simp, hb, Or.inr h⟩
   ·exact Or.inl h
  ·exact Or.inr ⟨e', by simp [he], h⟩

theorem D7k {l : List Oper} {j x : Nat} {o : Oper} (h : l[j]? = some o) (hb : ((C3f l).getD j 0).testBit x = true) :
  ∃ e ∈ o.after.toList, Region.binds .any e = true ∧ (x = e.on ∨ (e.on < j ∧ ((C3f l).getD e.on 0).testBit x = true)) := by
 have hg := D7i l [] j o h
 simp only [List.length_nil, Nat.zero_add] at hg
 have e0 : C3f l = B2i [] l := rfl
 rw [e0, List.getD_eq_getElem?_getD, hg] at hb
 simp only [Option.getD_some, B35] at hb
 rcases C86 _ x _ _ hb with hb | ⟨e, he, hbi, hx⟩
 ·simp at hb
 ·refine ⟨e, he, hbi, hx.imp (fun h => h) fun hx => ?_⟩
  have hjl := (List.getElem?_eq_some_iff.1 h).1
  have hlen : (B2i [] (l.take j)).length = j := by rw [B9q]; simp; omega
  by_cases hlt : e.on < j
  ·refine ⟨hlt, ?_⟩
   rw [List.getD_eq_getElem?_getD] at hx
   rw [e0, List.getD_eq_getElem?_getD, C61 l [] j, C50 _ _ _ (by omega)]
   exact hx
  ·rw [List.getD_eq_getElem?_getD, List.getElem?_eq_none (by omega)] at hx
   simp at hx

/-- What is closed under the edges holds all that stands ahead. -/
theorem D2r {ops : Array Oper} {listed : Array Bool} (hcl : ∀ i o, ops[i]? = some o → listed.getD i true = true → ∀ e ∈ o.after, Region.binds .any e = true → listed.getD e.on false = true) :
  ∀ (j : Nat) (o : Oper), ops[j]? = some o → (∀ e ∈ o.after, Region.binds .any e = true → listed.getD e.on false = true) → ∀ x, ((C3f ops.toList).getD j 0).testBit x = true → listed.getD x false = true := by
 intro j
 induction j using Nat.strongRecOn with
 | _ j ih =>
  intro o ho hd x hx
  obtain ⟨e, he, hb, hx⟩ := D7k (l := ops.toList) (by simpa using ho) hx
  have he' : e ∈ o.after := Array.mem_toList_iff.1 he
  have hl := hd e he' hb
  rcases hx with rfl | ⟨hlt, hx⟩
  ·exact hl
  ·cases hoe : ops[e.on]? with
   | none =>
    have : (C3f ops.toList).getD e.on 0 = 0 := by
     have hn : ops.size ≤ e.on := by
      rcases Nat.lt_or_ge e.on ops.size with h' | h'
      ·simp [h'] at hoe
      ·exact h'
     have hl : (C3f ops.toList).length = ops.size := by
      have := B9q ops.toList []
      simpa [C3f, B2i] using this
     rw [List.getD_eq_getElem?_getD, List.getElem?_eq_none (by omega)]; rfl
    rw [this] at hx; simp at hx
   | some oe =>
    refine ih e.on hlt oe hoe (hcl e.on oe hoe ?_) x hx
    rw [Array.getD_eq_getD_getElem?] at hl ⊢
    cases hq : listed[e.on]? with
    | none => rfl
    | some b => rw [hq] at hl; simpa using hl

section
variable {P : Program} {E : Env} {G : Nat → Option (List T)} {F : Frm} {ds : List Deferred}

theorem C2m {ro : Option Nat} {nn : Nat} (hG : GOK E G) {st' : St} {n : Nat} {ops : Array Oper} {Q : Exit → Act → World → Prop} {base : Nat} (hQ : ∀ a' w' A' φ', RS E F st'.sto w' A' φ' → RE ds st' n a' w' A' φ' → Q .normal a' w')
  (hedge : ∀ i o, ops[i]? = some o → ∀ e ∈ o.after, Region.binds .any e = true → e.on < i) :
  ∀ (fuel : Nat) (L : List (Nat × SO × Rc)) (listed : Array Bool) (st : St) (a : Act) (w : World) (A : Nat → Prop) (φ : Nat → Nat), L.length = fuel → listed.size = ops.size →
   (∀ p ∈ L, ∃ i x, p.1 = base + i ∧ ops[i]? = some x ∧ B8a P G n ops x = some p.2.1) →
   (∀ i, listed.getD i true = false ↔ ∃ p ∈ L, p.1 = base + i) →
   L.Pairwise (fun p q => p.1 < q.1 ∧ (((C3f ops.toList).getD (q.1 - base) 0).testBit (p.1 - base) = true ∨ Apart p.2.1 p.2.2 q.2.1 q.2.2)) →
   (∀ i o, ops[i]? = some o → listed.getD i true = true → ∀ e ∈ o.after, Region.binds .any e = true → listed.getD e.on false = true) →
   RS E F st.sto w A φ → RE ds st n a w A φ → B4h P E L st st' → wpAnyIn (fnc ro) nn P .any ops Q fuel listed a w
 | 0, L, listed, st, a, w, A, φ, hlen, hsz, hL, hmem, hpw, hcl, h, r, hr => by
  have hL0 : L = [] := List.eq_nil_of_length_eq_zero hlen
  subst hL0
  simp only [B4h] at hr; subst hr
  refine ⟨?_, hQ a w A φ h r⟩
  cases hrd : Region.ready .any ops listed with
  | nil => rfl
  | cons i _ =>
   have hi : i ∈ Region.ready .any ops listed := by rw [hrd]; simp
   obtain ⟨p, hp, _⟩ := (hmem i).1 (mem_ready.1 hi).1
   simp at hp
 | fuel + 1, L, listed, st, a, w, A, φ, hlen, hsz, hL, hmem, hpw, hcl, h, r, hr => by
  refine ⟨fun hnil => ?_, fun i hi => ?_⟩
  ·-- the first that is left is ready
   cases L with
   | nil => simp at hlen
   | cons p L =>
    obtain ⟨i, x, hpi, hx, hs⟩ := hL p (by simp)
    have hun := (hmem i).2 ⟨p, by simp, hpi⟩
    have : i ∈ Region.ready .any ops listed := by
     refine mem_ready.2 ⟨hun, x, hx, fun e he hb => ?_⟩
     have hlt := hedge i x hx e he hb
     have hxi := (Array.getElem?_eq_some_iff.1 hx).1
     cases hq : listed.getD e.on true with
     | true =>
      rw [Array.getD_eq_getD_getElem?] at hq ⊢
      rw [Array.getElem?_eq_getElem (by omega)] at hq ⊢
      simpa using hq
     | false =>
      obtain ⟨q, hq1, hq2⟩ := (hmem e.on).1 hq
      rcases List.mem_cons.1 hq1 with rfl | hq1
      ·omega
      ·have := (List.pairwise_cons.1 hpw).1 q hq1
       omega
    rw [hnil] at this; simp at this
  ·obtain ⟨hun, x, hx, hedges⟩ := mem_ready.1 hi
   obtain ⟨p, hp, hpi⟩ := (hmem i).1 hun
   obtain ⟨j, x', hpj, hx', hs⟩ := hL p hp
   have hij : j = i := by omega
   subst hij
   rw [hx] at hx'; injection hx' with hx'; subst hx'
   obtain ⟨La, Lb, hsplit⟩ := List.append_of_mem hp
   subst hsplit
   have hap : ∀ q ∈ La, Apart q.2.1 q.2.2 p.2.1 p.2.2 := fun q hq => by
    have hpq := (List.pairwise_append.1 hpw).2.2 q hq p (by simp)
    rcases hpq.2 with hb | hb
    ·exfalso
     have := D2r hcl j x hx hedges (q.1 - base) (by rw [show p.1 - base = j from by omega] at hb; exact hb)
     obtain ⟨jq, xq, hq1, hxq, _⟩ := hL q (by simp [hq])
     have hunq := (hmem jq).2 ⟨q, by simp [hq], hq1⟩
     rw [show q.1 - base = jq from by omega] at this
     rw [Array.getD_eq_getD_getElem?] at this hunq
     cases hlq : listed[jq]? with
     | none => rw [hlq] at hunq; simp at hunq
     | some b => rw [hlq] at this hunq; simp at this hunq; rw [this] at hunq; simp at hunq
    ·exact hb
   obtain ⟨pi, po, pr⟩ := p
   have hr' := E14 hap hr
   simp only [B4h] at hr'
   obtain ⟨f1, f2, f3, f4, f5⟩ := B9n hs
   refine D4z hG h r hx f1 f2 f3 f4 f5 hr'.1 fun a' w' A' φ' h' r' => ?_
   have hsize : j < listed.size := by rw [hsz]; exact (Array.getElem?_eq_some_iff.1 hx).1
   have hlst : ∀ k (d : Bool), (listed.setIfInBounds j true).getD k d = if k = j then true else listed.getD k d := fun k d => by
    by_cases hk : k = j
    ·subst hk; simp [hsize]
    ·rw [if_neg hk]; exact getD_set_ne d (Ne.symm hk)
   refine C2m hG hQ hedge fuel (La ++ Lb) _ _ a' w' A' φ' (by simp at hlen ⊢; omega) (by simp [hsz]) (fun q hq => hL q ?_) (fun k => ?_) ?_ (fun k o ho hk e he hb => ?_) h' r' hr'.2
   ·rcases List.mem_append.1 hq with hq | hq <;> simp [hq]
   ·rw [hlst]
    have hnot : ∀ q ∈ La ++ Lb, q.1 ≠ base + j := fun q hq e => by
     rcases List.mem_append.1 hq with hq | hq
     ·have := (List.pairwise_append.1 hpw).2.2 q hq _ (by simp : (pi, po, pr) ∈ (pi, po, pr) :: Lb)
      simp only at this hpi; omega
     ·have := (List.pairwise_cons.1 (List.pairwise_append.1 hpw).2.1).1 q hq
      simp only at this hpi; omega
    by_cases hk : k = j
    ·subst hk
     simp only [if_true, Bool.true_eq_false, false_iff]
     rintro ⟨q, hq, hqe⟩
     exact hnot q hq hqe
    ·rw [if_neg hk, hmem k]
     constructor
     ·rintro ⟨q, hq, hqe⟩
      rcases List.mem_append.1 hq with hq | hq
      ·exact ⟨q, by simp [hq], hqe⟩
      ·rcases List.mem_cons.1 hq with rfl | hq
       ·simp only at hpi hqe; omega
       ·exact ⟨q, by simp [hq], hqe⟩
     ·rintro ⟨q, hq, hqe⟩
      rcases List.mem_append.1 hq with hq | hq
      ·exact ⟨q, by simp [hq], hqe⟩
      ·exact ⟨q, by simp [hq], hqe⟩
   ·rw [List.pairwise_append] at hpw ⊢
    exact ⟨hpw.1, (List.pairwise_cons.1 hpw.2.1).2, fun q hq q' hq' => hpw.2.2 q hq q' (by simp [hq'])⟩
   ·rw [hlst]
    by_cases hk2 : k = j
    ·subst hk2
     rw [hx] at ho; injection ho with ho; subst ho
     split
     ·rfl
     ·exact hedges e he hb
    ·rw [hlst, if_neg hk2] at hk
     split
     ·rfl
     ·exact hcl k o ho hk e he hb

/-- A region, whether its order is drawn or not. -/
theorem D6c {ro : Option Nat} {nn : Nat} (hm : P.follows .mixedOrders = true) (hG : GOK E G) {st st' : St} {n : Nat} {ops : Array Oper} {draw : Bool} {sos : List SO} {prs : List (Nat × Nat)} (hsl : C3x P G n ops draw = some (sos, prs)) {Q : Exit → Act → World → Prop} {base id : Nat}
  (hQ : ∀ a' w' A' φ', RS E F st'.sto w' A' φ' → RE ds st' n a' w' A' φ' → Q .normal a' w') {rs : List Rc} (hrs : rs.length = sos.length) (hruns : B4h P E (A3h base sos rs) st st')
  (hprs : ∀ p ∈ prs, ∃ a b, rs[p.1]? = some a ∧ rs[p.2]? = some b ∧ B5s a b = true)
  {a : Act} {w : World} {A : Nat → Prop} {φ : Nat → Nat} (h : RS E F st.sto w A φ) (r : RE ds st n a w A φ) : (Code.region id ops draw).wpIn (fnc ro) nn P Q a w := by
 unfold C3x at hsl
 split at hsl
 ·rename_i l hall
  have hget := C2l hall
  have hback : ∀ (i : Nat) (o : SO), l[i]? = some o → ∃ x, ops[i]? = some x ∧ B8a P G n ops x = some o := fun i o ho => by
   have hi : i < ops.toList.length := by rw [← hget.1]; exact (List.getElem?_eq_some_iff.1 ho).1
   obtain ⟨so, hso, hs⟩ := hget.2 i _ (List.getElem?_eq_getElem hi)
   rw [ho] at hso; injection hso with hso; subst hso
   exact ⟨ops.toList[i], by simp at hi ⊢, hs⟩
  have hsize : l.length = ops.size := by rw [hget.1]; simp
  cases draw with
  | false =>
   simp only [Bool.false_eq_true, if_false, Option.some.injEq, Prod.mk.injEq] at hsl
   obtain ⟨rfl, rfl⟩ := hsl
   refine wpIn_region ?_
   have := C2y (ro := ro) (nn := nn) hG (base := base) hQ 0 l rs st a w A φ (fun i o ho => by rw [Nat.zero_add]; exact hback i o ho) hrs h r (by simpa using hruns)
   rw [hsize] at this
   rwa [List.range_eq_range']
  | true =>
   simp only [if_true] at hsl
   split at hsl
   ·rename_i hok
    simp only [Option.some.injEq, Prod.mk.injEq] at hsl
    obtain ⟨rfl, rfl⟩ := hsl
    simp only [Bool.and_eq_true] at hok
    refine wpIn_region_any hm ?_
    have hlen := C7q (base := base) hrs
    have hsget : ∀ (i : Nat) (p : Nat × SO × Rc), (A3h base l rs)[i]? = some p → p.1 = base + i ∧ l[i]? = some p.2.1 ∧ rs[i]? = some p.2.2 := fun i p hp => by
     have hi : i < l.length := by rw [← hlen]; exact (List.getElem?_eq_some_iff.1 hp).1
     have := C7c (base := base) (List.getElem?_eq_getElem hi) (List.getElem?_eq_getElem (l := rs) (i := i) (by omega))
     rw [hp] at this; injection this with this
     subst this
     exact ⟨rfl, List.getElem?_eq_getElem hi, List.getElem?_eq_getElem (by omega)⟩
    have hcanAll : ∀ (L : List (Nat × SO × Rc)) (s s' : St), B4h P E L s s' → ∀ p ∈ L, ∃ s1, Can P E p.1 p.2.1 s1 p.2.2 := by
     intro L
     induction L with
     | nil => intro s s' _ p hp; simp at hp
     | cons q L ih =>
      intro s s' hr p hp
      obtain ⟨qi, qo, qr⟩ := q
      simp only [B4h] at hr
      rcases List.mem_cons.1 hp with rfl | hp
      ·exact ⟨s, hr.1⟩
      ·exact ih _ _ hr.2 p hp
    refine C2m hG (base := base) hQ ?_ ops.size (A3h base l rs) (Array.replicate ops.size false) st a _ A φ (by rw [hlen, hsize]) (by simp) ?_ ?_ ?_ ?_ h.drew ⟨r.size, r.defers, fun k => CA.goes (A5v A w) _ _ (fun _ _ => rfl) (r.val k), r.nod⟩ hruns
    ·intro i o ho e he hb
     have h1 := hok.1
     unfold D4i at h1
     rw [List.all_eq_true] at h1
     have := h1 (o, i) (by rw [List.mem_zipIdx_iff_getElem?]; simpa using ho)
     rw [List.all_eq_true] at this
     have := this e (Array.mem_toList_iff.2 he)
     simpa [hb] using this
    ·intro p hp
     obtain ⟨i, hi, hpe⟩ := List.getElem_of_mem hp
     obtain ⟨g1, g2, g3⟩ := hsget i p (by rw [← hpe]; exact List.getElem?_eq_getElem hi)
     obtain ⟨x, hx, hs⟩ := hback i _ g2
     exact ⟨i, x, g1, hx, hs⟩
    ·intro i
     constructor
     ·intro hi
      have hlt : i < ops.size := by
       rcases Nat.lt_or_ge i ops.size with h' | h'
       ·exact h'
       ·rw [Array.getD_eq_getD_getElem?, Array.getElem?_eq_none (by simpa using h')] at hi; simp at hi
      refine ⟨(A3h base l rs)[i]'(by rw [hlen]; omega), List.getElem_mem _, ?_⟩
      exact (hsget i _ (List.getElem?_eq_getElem _)).1
     ·rintro ⟨p, hp, hpe⟩
      obtain ⟨j, hj, hpj⟩ := List.getElem_of_mem hp
      obtain ⟨g1, g2, g3⟩ := hsget j p (by rw [← hpj]; exact List.getElem?_eq_getElem hj)
      have : j = i := by omega
      subst this
      rw [Array.getD_eq_getD_getElem?]
      rw [hlen] at hj
      simp [show j < ops.size from by omega]
    ·rw [List.pairwise_iff_getElem]
     intro i j hi hj hij
     obtain ⟨a1, a2, a3⟩ := hsget i _ (List.getElem?_eq_getElem hi)
     obtain ⟨b1, b2, b3⟩ := hsget j _ (List.getElem?_eq_getElem hj)
     refine ⟨by omega, ?_⟩
     rw [a1, b1, Nat.add_sub_cancel_left, Nat.add_sub_cancel_left]
     by_cases hb : ((C3f ops.toList).getD j 0).testBit i = true
     ·exact Or.inl hb
     ·right
      have h2 := hok.2
      unfold D4n at h2
      rw [List.all_eq_true] at h2
      have h3 := h2 (_, j) (List.mem_zipIdx_iff_getElem?.2 b2)
      rw [List.all_eq_true] at h3
      have hti : (l.take j)[i]? = some ((A3h base l rs)[i]).2.1 := by rw [List.getElem?_take_of_lt hij]; exact a2
      have h4 := h3 (_, i) (List.mem_zipIdx_iff_getElem?.2 hti)
      simp only [Bool.or_eq_true] at h4
      have h5 := h4.resolve_left hb
      refine D8b h5 ?_
      obtain ⟨s1, c1⟩ := hcanAll _ _ _ hruns _ (List.getElem_mem hi)
      obtain ⟨s2, c2⟩ := hcanAll _ _ _ hruns _ (List.getElem_mem hj)
      by_cases hq : (((A3h base l rs)[j]).2.1.k.quiet || ((A3h base l rs)[i]).2.1.k.quiet || (((A3h base l rs)[j]).2.1.k.reads && ((A3h base l rs)[i]).2.1.k.reads)) = true
      ·simp only [Bool.or_eq_true, Bool.and_eq_true] at hq
       rcases hq with (hq | hq) | ⟨hq1, hq2⟩
       ·obtain ⟨e1, e2⟩ := C7t hq c2
        unfold B5s; simp [e1, e2, A4]
       ·obtain ⟨e1, e2⟩ := C7t hq c1
        unfold B5s; simp [e1, e2, A4]
       ·have e1 := C81 hq1 c2
        have e2 := C81 hq2 c1
        unfold B5s; simp [e1, e2, A4]
      ·have hmem : (i, j) ∈ C9w (C3f ops.toList) l := by
        unfold C9w
        rw [List.mem_flatMap]
        refine ⟨(_, j), List.mem_zipIdx_iff_getElem?.2 b2, ?_⟩
        rw [List.mem_filterMap]
        refine ⟨(_, i), List.mem_zipIdx_iff_getElem?.2 hti, ?_⟩
        rw [if_neg]
        simp only [Bool.or_eq_true] at hq ⊢
        intro hc
        rcases hc with ((hc | hc) | hc) | hc
        ·exact hb hc
        ·exact hq (Or.inl (Or.inl hc))
        ·exact hq (Or.inl (Or.inr hc))
        ·exact hq (Or.inr hc)
       obtain ⟨ra, rb, e1, e2, e3⟩ := hprs (i, j) hmem
       rw [a3] at e1; injection e1 with e1; subst e1
       rw [b3] at e2; injection e2 with e2; subst e2
       exact e3
    ·intro i o ho hi
     rw [Array.getD_eq_getD_getElem?] at hi
     have hlt := (Array.getElem?_eq_some_iff.1 ho).1
     simp [hlt] at hi
   ·simp at hsl
 ·simp at hsl

end
end Go.Sx
