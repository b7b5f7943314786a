/- Arithmetic, comparisons, places, pieces. No statement of a seat is proved here. -/
import Derived.Test.YtgnokggmbkhnbaaSxSim3
set_option linter.unusedSimpArgs false
set_option linter.unusedVariables false
namespace Go.Sx
section
variable {P : Program} {E : Env} {F : Frm} {sto : Nat → Option Ob} {w : World} {A : Nat → Prop} {φ : Nat → Nat}

theorem ca_v {x y : Value} (h : CA A φ w (.t (.v x)) y) : y = x ∧ x.oneCell' = true := by simpa only [CA, CT] using h

theorem ca_mk {x : Value} (h : x.oneCell' = true) : CA A φ w (.t (.v x)) x := by simp only [CA, CT]; exact ⟨trivial, h⟩

theorem run_binInt {op : BinOp} {t : TypeId} {x y : Operand} {k k' : IntKind} {a b : Int} {v : Value} (h : binV op (.t (.v (.int k a))) (.t (.v (.int k' b))) = some v) :
    (do eqGuard op t x y (.int k a) (.int k' b); binOp op t (.int k a) (.int k' b) : Sem Value).run P w = .ok v w ∧ v.oneCell' = true := by
  have hg : (eqGuard op t x y (.int k a) (.int k' b)).run P w = .ok () w := by
    cases op <;> simp [eqGuard]
  simp only [Sem.run_bind, hg, Result.andThen_ok]
  cases op
  case shl | shr =>
    simp only [binV, binShift] at h
    split at h
    · simp at h
    · rename_i hn
      injection h with h; subst h
      simp [binOp, Op.shift, hn, Value.oneCell']
  case add | sub | mul =>
    simp only [binV, binInt] at h
    split at h
    · rename_i hk; subst hk
      injection h with h; subst h
      simp [binOp, Op.intArith, Value.oneCell']
    · simp at h
  case quo | rem =>
    simp only [binV, binInt] at h
    split at h
    · rename_i hk; subst hk
      split at h
      · simp at h
      · rename_i hb
        injection h with h; subst h
        simp [binOp, Op.intDiv, hb, Value.oneCell']
    · simp at h
  case and | or | xor | andNot =>
    simp only [binV, binInt] at h
    split at h
    · rename_i hk; subst hk
      injection h with h; subst h
      simp [binOp, Op.intBits, Value.oneCell']
    · simp at h
  case eql | neq | lss | leq | gtr | geq =>
    simp only [binV, binInt] at h
    split at h
    · rename_i hk; subst hk
      injection h with h; subst h
      simp [binOp, Op.intCmp, Value.oneCell']
    · simp at h

theorem run_binStr {op : BinOp} {t : TypeId} {x y : Operand} {a b : ByteArray} {v : Value} (h : binV op (.t (.v (.string a))) (.t (.v (.string b))) = some v) :
    (do eqGuard op t x y (.string a) (.string b); binOp op t (.string a) (.string b) : Sem Value).run P w = .ok v w ∧ v.oneCell' = true := by
  have hg : (eqGuard op t x y (.string a) (.string b)).run P w = .ok () w := by
    cases op <;> simp [eqGuard]
  simp only [Sem.run_bind, hg, Result.andThen_ok]
  cases op
  case add =>
    simp only [binV, binStr] at h
    split at h
    · simp at h
    · rename_i hn
      injection h with h; subst h
      simp only [binOp, Op.stringOp, Value.oneCell', and_true]
      rw [if_neg hn]; rfl
  case eql | neq | lss | leq | gtr | geq =>
    simp only [binV, binStr] at h
    injection h with h; subst h
    simp [binOp, Op.stringOp, Value.oneCell']
  all_goals simp [binV, binStr] at h

theorem binV_shape {op : BinOp} {x y : AV} {v : Value} (h : binV op x y = some v) : (∃ k a k' b, x = .t (.v (.int k a)) ∧ y = .t (.v (.int k' b))) ∨ (∃ a b, x = .t (.v (.string a)) ∧ y = .t (.v (.string b))) := by
  unfold binV at h
  split at h
  · exact Or.inl ⟨_, _, _, _, rfl, rfl⟩
  · exact Or.inr ⟨_, _, rfl, rfl⟩
  · simp at h

theorem run_bin {op : BinOp} {t : TypeId} {x y : Operand} {xa ya : AV} {xv yv v : Value} (h : binV op xa ya = some v) (hx : CA A φ w xa xv) (hy : CA A φ w ya yv) :
    (do eqGuard op t x y xv yv; binOp op t xv yv : Sem Value).run P w = .ok v w ∧ v.oneCell' = true := by
  rcases binV_shape h with ⟨k, a, k', b, rfl, rfl⟩ | ⟨a, b, rfl, rfl⟩
  · rw [(ca_v hx).1, (ca_v hy).1]; exact run_binInt h
  · rw [(ca_v hx).1, (ca_v hy).1]; exact run_binStr h

theorem eqC_ok {k : EK} {x y : AV} {xv yv : Value} {r : Bool} (h : eqC k x y = some r) (hx : CA A φ w x xv) (hy : CA A φ w y yv) : eqV k xv yv = some r := by
  unfold eqC at h
  split at h
  · rw [(ca_v hx).1, (ca_v hy).1]; exact h
  · rw [(ca_v hx).1, (ca_v hy).1]; exact h
  · rw [(ca_v hx).1, (ca_v hy).1]; exact h
  · simp at h

theorem eqCs_ok : ∀ {ks : List EK} {xs ys : List AV} {us vs : List Value} {r : Bool}, eqCs ks xs ys = some r → CAs A φ w xs us → CAs A φ w ys vs → eqVs ks us vs = some r
  | [], [], [], us, vs, r, h, hx, hy => by simp only [CAs] at hx hy; subst hx; subst hy; exact h
  | [], _ :: _, _, _, _, _, h, _, _ => by simp [eqCs] at h
  | [], [], _ :: _, _, _, _, h, _, _ => by simp [eqCs] at h
  | _ :: _, [], _, _, _, _, h, _, _ => by simp [eqCs] at h
  | _ :: _, _ :: _, [], _, _, _, h, _, _ => by simp [eqCs] at h
  | k :: ks, x :: xs, y :: ys, us, vs, r, h, hx, hy => by
    simp only [CAs] at hx hy
    obtain ⟨u, us', rfl, h1, h2⟩ := hx
    obtain ⟨v, vs', rfl, h3, h4⟩ := hy
    simp only [eqCs] at h
    split at h
    · rename_i p q hp hq
      simp only [eqVs, eqC_ok hp h1 h3, eqCs_ok hq h2 h4]; exact h
    · simp at h

theorem run_eqf {op : BinOp} {t : TypeId} {x y : Operand} {xs ys : List AV} {xv yv : Value} {ks : List EK} {b : Bool} (hop : op = .eql ∨ op = .neq) (hu : (P.underlying t).any isAggD = true) (hg : P.eqGuardType P.depth t = false)
    (hf : flat P 20 t = some ks) (hx : CA A φ w (.ag xs) xv) (hy : CA A φ w (.ag ys) yv) (he : eqCs ks xs ys = some b) :
    (do eqGuard op t x y xv yv; binOp op t xv yv : Sem Value).run P w = .ok (.bool (if op = .neq then !b else b)) w := by
  simp only [CA] at hx hy
  obtain ⟨us, rfl, hx⟩ := hx
  obtain ⟨vs, rfl, hy⟩ := hy
  have h := eq_flat (P := P) w 20 t ks hf 10000 (by omega) us.toList vs.toList b (eqCs_ok he hx hy)
  have ha : aggT P t = true := hu
  simp only [ha, packV, if_true, Array.toArray_toList] at h
  simp only [Sem.run_bind, run_eqGuard_agg w op t x y us vs hg, Result.andThen_ok]
  rcases hop with rfl | rfl
  · rw [run_eql_struct, h]; simp
  · rw [run_neq_struct, h]; simp

theorem run_beq {neg : Bool} {t : TypeId} {x y : Operand} {a b : Bool} (hu : P.underlying t = some .bool) :
    (do eqGuard (if neg then .neq else .eql) t x y (.bool a) (.bool b); binOp (if neg then .neq else .eql) t (.bool a) (.bool b) : Sem Value).run P w = .ok (.bool (if neg then !(a == b) else a == b)) w := by
  have h : (Op.equal t (.bool a) (.bool b)).run P w = .ok (a == b) w := run_equalIn_bool w 9999 t a b hu
  cases neg with
  | false =>
    have hg : (eqGuard .eql t x y (.bool a) (.bool b)).run P w = .ok () w := by simp [eqGuard]
    have hb : binOp .eql t (.bool a) (.bool b) = (do pure (.bool (← Op.equal t (.bool a) (.bool b))) : Sem Value) := by simp only [binOp]
    simp only [Bool.false_eq_true, if_false, Sem.run_bind, hg, Result.andThen_ok, hb, h, Sem.run_pure]
  | true =>
    have hg : (eqGuard .neq t x y (.bool a) (.bool b)).run P w = .ok () w := by simp [eqGuard]
    have hb : binOp .neq t (.bool a) (.bool b) = (do pure (.bool (!(← Op.equal t (.bool a) (.bool b)))) : Sem Value) := by simp only [binOp]
    simp only [if_true, Sem.run_bind, hg, Result.andThen_ok, hb, h, Sem.run_pure]

theorem run_un {op : UnOp} {x : AV} {xv v : Value} (h : unV op x = some v) (hx : CA A φ w x xv) : (Op.unary op xv).run P w = .ok v w ∧ v.oneCell' = true := by
  unfold unV at h
  split at h
  · rw [(ca_v hx).1]
    cases op <;> simp at h <;> subst h <;> simp [Op.unary, Op.intArith, Op.intBits, Value.oneCell']
  · rw [(ca_v hx).1]
    cases op <;> simp at h <;> subst h <;> simp [Op.unary, Value.oneCell']
  · simp at h

theorem ca_ptr_add {i o off : Nat} {v : Value} (h : CA A φ w (.ptr i o) v) : ∃ b, v = .pointer (some b) ∧ CA A φ w (.ptr i (o + off)) (.pointer (some (b.add off))) := by
  simp only [CA] at h; subst h
  exact ⟨_, rfl, by simp only [CA, addr_add]⟩

theorem ca_ept_add {i s j o off : Nat} {v : Value} (h : CA A φ w (.ept i s j o) v) : ∃ b, v = .pointer (some b) ∧ CA A φ w (.ept i s j (o + off)) (.pointer (some (b.add off))) := by
  simp only [CA] at h; subst h
  exact ⟨_, rfl, by simp only [CA, addr_add]; rw [Nat.add_assoc]⟩

theorem ca_ipt_add {cs : List T} {off : Nat} {v : Value} (h : CA A φ w (.ipt cs) v) : ∃ b, v = .pointer (some b) ∧ CA A φ w (.ipt (cs.drop off)) (.pointer (some (b.add off))) := by
  simp only [CA] at h
  obtain ⟨b, o, rfl, hA, hc⟩ := h
  refine ⟨_, rfl, ?_⟩
  simp only [CA, addr_add]
  exact ⟨b, o + off, rfl, hA, hc.drop off⟩

/-- A place within what a pointer points at. -/
theorem ca_add {x x' : AV} {off : Nat} {v : Value} (h : CA A φ w x v) (hx : x.padd off = some x') : ∃ b, v = .pointer (some b) ∧ CA A φ w x' (.pointer (some (b.add off))) ∧ x'.ids = x.ids := by
  cases x <;> simp [AV.padd] at hx <;> subst hx
  · obtain ⟨b, h1, h2⟩ := ca_ptr_add (off := off) h; exact ⟨b, h1, h2, rfl⟩
  · obtain ⟨b, h1, h2⟩ := ca_ept_add (off := off) h; exact ⟨b, h1, h2, rfl⟩
  · obtain ⟨b, h1, h2⟩ := ca_ipt_add (off := off) h; exact ⟨b, h1, h2, rfl⟩

theorem run_fieldAt {t : TypeId} {fs : Array Field} {i : Nat} {f : Field} {n : Nat} (hu : P.underlying t = some (.struct fs)) (hf : fs[i]? = some f) (hn : sizeT P f.type = some n) (h0 : n ≠ 0) (b : Addr) :
    (Instr.fieldAt t (.pointer (some b)) i).run P w = .ok (.pointer (some (b.add f.offset))) w := by
  simp [Instr.fieldAt, run_underlying hu, hf, Instr.sureAddr, fieldPlace, run_sizeOf hn, h0]

theorem run_partA {e : TypeId} {d : TypeDesc} {n off : Nat} (hu : P.underlying e = some d) (hs : sizeT P e = some n) {cs : List AV} {ys : Array Value} {x : AV} (h : CAs A φ w cs ys.toList) (hp : packA (isAggD d) n (cs.drop off) = some x) :
    ∃ v, (part e ys off).run P w = .ok v w ∧ CA A φ w x v ∧ ∀ id ∈ x.ids, id ∈ idsL cs := by
  have ha : aggT P e = isAggD d := by simp [aggT, hu]
  have hd := h.drop off
  obtain ⟨vs, h1, h2, h3, h4⟩ := packA_ok hd hp
  simp only [part, Sem.run_bind, run_isAgg (t := e) (by rw [hu]; rfl), Result.andThen_ok, ha]
  cases hagg : isAggD d with
  | true =>
    simp only [hagg, if_true] at h2 hp
    simp only [packA, if_true] at hp
    split at hp
    · rename_i hl
      injection hp with hp; subst hp
      refine ⟨.agg (ys.extract off (off + n)), by simp [run_sizeOf hs], ?_, fun id hid => idsL_drop (h4 id hid)⟩
      simp only [CA]
      refine ⟨_, rfl, ?_⟩
      have := hd.take n
      rwa [show (ys.extract off (off + n)).toList = (ys.toList.drop off).take n from by simp [List.take_drop]]
    · simp at hp
  | false =>
    rw [hagg] at hp
    simp only [packA, Bool.false_eq_true, if_false] at hp
    obtain ⟨y, hy, hc⟩ := hd.get hp
    rw [List.getElem?_drop] at hy
    simp only [Nat.add_zero, Array.getElem?_toList] at hy
    refine ⟨y, by simp [hy], hc, fun id hid => idsL_drop (h4 id hid)⟩

theorem run_indexAt_arr {t e : TypeId} {len n : Nat} (hu : P.underlying t = some (.array len e)) (hs : sizeT P e = some n) (b : Addr) {k : IntKind} {i : Int} (h0 : 0 ≤ i) (h1 : i < len) :
    (Instr.indexAt t (.pointer (some b)) (.int k i)).run P w = .ok (.pointer (some (b.add (i.toNat * n)))) w := by
  simp [Instr.indexAt, asIntOf, run_underlying hu, Instr.sureAddr, h0, h1, run_sizeOf hs]

theorem run_indexAt_sl {t e : TypeId} {n len cap : Nat} (hu : P.underlying t = some (.slice e)) (hs : sizeT P e = some n) (b : Addr) {k : IntKind} {i : Int} (h0 : 0 ≤ i) (h1 : i < len) :
    (Instr.indexAt t (.slice (some b) len cap) (.int k i)).run P w = .ok (.pointer (some (b.add (i.toNat * n)))) w := by
  simp [Instr.indexAt, asIntOf, run_underlying hu, h0, h1, run_sizeOf hs]

theorem run_index_arr {t e : TypeId} {len n : Nat} (hu : P.underlying t = some (.array len e)) (hs : sizeT P e = some n) (ys : Array Value) {k : IntKind} {i : Int} (h0 : 0 ≤ i) (h1 : i < len) :
    (Instr.index t (.agg ys) (.int k i)).run P w = (part e ys (i.toNat * n)).run P w := by
  simp only [Instr.index, asIntOf, run_underlying hu, Sem.run_bind, Sem.run_pure, Result.andThen_ok, h0, h1, and_self, if_true, run_sizeOf hs]

theorem run_index_str {t : TypeId} (hu : P.underlying t = some .string) (s : ByteArray) {k : IntKind} {i : Int} (h0 : 0 ≤ i) {b : UInt8} (hb : s[i.toNat]? = some b) :
    (Instr.index t (.string s) (.int k i)).run P w = .ok (.int .u8 b.toNat) w := by
  simp [Instr.index, asIntOf, run_underlying hu, h0, hb]

theorem lenA_ok {x : AV} {v : Value} {n : Nat} (h : lenA x = some n) (hx : CA A φ w x v) : (∃ s, v = .string s ∧ s.size = n ∧ x = .t (.v (.string s))) ∨ (∃ a c, v = .slice a n c ∧ n ≤ c) := by
  unfold lenA at h
  split at h
  · injection h with h; rw [(ca_v hx).1]; exact Or.inl ⟨_, rfl, h, rfl⟩
  · injection h with h; simp only [CA, CT] at hx; obtain ⟨a, c, rfl, hc, _⟩ := hx; subst h; exact Or.inr ⟨a, c, rfl, hc⟩
  · injection h with h; subst h; rw [(ca_v hx).1]; exact Or.inr ⟨_, _, rfl, Nat.le_refl _⟩
  · injection h with h; subst h; rw [(ca_v hx).1]; exact Or.inr ⟨_, _, rfl, Nat.zero_le _⟩
  · injection h with h; subst h; simp only [CA] at hx; obtain ⟨a, c, rfl, hc, _⟩ := hx; exact Or.inr ⟨a, c, rfl, hc⟩
  · simp at h

theorem run_len {t ty : TypeId} {x : AV} {v : Value} {n : Nat} {str : Bool} (hu : if str then P.underlying t = some .string else ∃ e, P.underlying t = some (.slice e)) (h : lenA x = some n) (hs : x.isStr = str) (hx : CA A φ w x v)
    (more : Array TypeId) (vs : Array Value) (hm : more[0]? = some t) (hv : vs[0]? = some v) :
    (Builtin.len_ more ty vs).run P w = .ok (.int .i64 n) w := by
  rcases lenA_ok h hx with ⟨s, rfl, hs', rfl⟩ | ⟨a, c, rfl, _⟩
  · simp only [AV.isStr] at hs; subst hs
    simp only [if_true] at hu
    simp [Builtin.len_, hm, hv, run_underlying hu, hs', goInt]
  · cases str with
    | true =>
      unfold AV.isStr at hs
      split at hs
      · have := (ca_v hx).1; cases this
      · simp at hs
    | false =>
      simp only [Bool.false_eq_true, if_false] at hu
      obtain ⟨e, hu⟩ := hu
      simp [Builtin.len_, hm, hv, run_underlying hu, goInt]

end
end Go.Sx
