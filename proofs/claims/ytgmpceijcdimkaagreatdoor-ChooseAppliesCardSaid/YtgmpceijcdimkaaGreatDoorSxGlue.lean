/- From a contract over abstract values to what a row asks: the arguments' reading, and what stays. No statement of a seat is proved here. -/
import Derived.Test.YtgmpceijcdimkaaGreatDoorSxF
import Derived.ProofKit
import Derived.SizedLaws
set_option linter.unusedSimpArgs false
set_option linter.unusedVariables false
namespace Go.Sx
open Go.ChangeShapes Go.WideShapes Go.ChangeAt Go.RowKit

def CTs (A : Nat → Prop) (w : World) : List T → List Value → Prop
 | [], vs => vs = []
 | c :: cs, vs => ∃ v vs', vs = v :: vs' ∧ CT A w c v ∧ CTs A w cs vs'

theorem CTs.len {A : Nat → Prop} {w : World} : ∀ {cs : List T} {vs : List Value}, CTs A w cs vs → cs.length = vs.length
 | [], vs, h => by simp only [CTs] at h; subst h; rfl
 | c :: cs, vs, h => by
  simp only [CTs] at h
  obtain ⟨v, vs', rfl, _, h⟩ := h
  simp [h.len]

theorem CTs.append {A : Nat → Prop} {w : World} : ∀ {cs ds : List T} {vs us : List Value}, CTs A w cs vs → CTs A w ds us → CTs A w (cs ++ ds) (vs ++ us)
 | [], ds, vs, us, h, k => by simp only [CTs] at h; subst h; exact k
 | c :: cs, ds, vs, us, h, k => by
  simp only [CTs] at h
  obtain ⟨v, vs', rfl, hc, h⟩ := h
  simp only [List.cons_append, CTs]
  exact ⟨v, vs' ++ us, rfl, hc, h.append k⟩

theorem CTs.one {A : Nat → Prop} {w : World} {c : T} {v : Value} (h : CT A w c v) : CTs A w [c] [v] := by
 simp only [CTs]; exact ⟨v, [], rfl, h, rfl⟩

/-- Types without pointers, maps, functions: what is read as a tree. -/
def A7u (P : Program) : Nat → TypeId → Bool
 | 0, _ => false
 | n + 1, t => match P.underlying t with
  | some .bool | some (.int _) | some (.float _) | some .string => true
  | some (.slice e) => decide (0 < P.cellsOf e) && (decide (0 < P.bytesOf e) && A7u P n e)
  | some (.struct fs) => fs.toList.all fun f => A7u P n f.type
  | some (.array _ e) => A7u P n e
  | _ => false

/-- The parts of a struct, one behind the other. -/
def parts (ok : TypeId → List T → Prop) : List TypeId → List T → Prop
 | [], cs => cs = []
 | t :: ts, cs => ∃ a b, cs = a ++ b ∧ ok t a ∧ parts ok ts b

/-- The trees that a type has. -/
def okT (P : Program) : Nat → TypeId → List T → Prop
 | 0, _, _ => False
 | n + 1, t, cs => match P.underlying t with
  | some .bool => ∃ b, cs = [.v (.bool b)]
  | some (.int k) => ∃ i, cs = [.v (.int k i)] ∧ (Lit.int k i).wf = true
  | some (.float k) => ∃ i, cs = [.v (.float k i)] ∧ (Lit.float k i).wf = true
  | some .string => ∃ s, cs = [.v (.string s)] ∧ s.size ≤ reachBytes
  | some (.slice e) => ∃ es, cs = [.sl (P.cellsOf e) es] ∧ es.length ≤ reachBytes ∧ ∀ c ∈ es, okT P n e c
  | some (.struct fs) => parts (okT P n) (fs.toList.map (·.type)) cs
  | some (.array m e) => parts (okT P n) (List.replicate m e) cs
  | _ => False

theorem D0l {A : Nat → Prop} {w : World} {sz b : Nat} : ∀ {es : List (List T)} {o : Nat}, (∀ i (h : i < es.length), es[i].length = sz ∧ D0 A w b (o + i * sz) es[i]) → E5 A w sz b o es
 | [], _, _ => by simp only [E5]
 | e :: es, o, h => by
  simp only [E5]
  refine ⟨by have := h 0 (by simp); simpa using this, D0l fun i hi => ?_⟩
  have := h (i + 1) (by simpa using hi)
  simp only [List.getElem_cons_succ] at this
  refine ⟨this.1, ?_⟩
  have e : o + sz + i * sz = o + (i + 1) * sz := by rw [Nat.add_mul]; omega
  rw [e]; exact this.2

theorem C7a {A : Nat → Prop} {w : World} {b : Nat} : ∀ {cs : List T} {vs : List Value} {o : Nat}, CTs A w cs vs → (∀ i (h : i < vs.length), w.cell? ⟨b, o + i, none⟩ = some vs[i]) → D0 A w b o cs
 | [], _, _, _, _ => by simp only [D0]
 | c :: cs, vs, o, h, k => by
  simp only [CTs] at h
  obtain ⟨v, vs', rfl, hc, h⟩ := h
  simp only [D0]
  refine ⟨⟨v, by have := k 0 (by simp); simpa using this, hc⟩, C7a h fun i hi => ?_⟩
  have := k (i + 1) (by simpa using hi)
  simp only [List.getElem_cons_succ] at this
  rw [show o + 1 + i = o + (i + 1) by omega]; exact this

theorem A75 {α : Type} {f : Nat → Option α} {n : Nat} {l : List α} (h : (List.range n).mapM f = some l) : l.length = n ∧ ∀ i (hi : i < l.length), f i = some l[i] := by
 have key : ∀ (r : List Nat) (l : List α), r.mapM f = some l → l.length = r.length ∧ ∀ i (h1 : i < r.length) (h2 : i < l.length), f r[i] = some l[i] := by
  intro r
  induction r with
  | nil => intro l h; simp at h; subst h; simp
  | cons a r ih =>
   intro l h
   rw [List.mapM_cons] at h
   cases ha : f a with
   | none => simp [ha] at h
   | some x =>
    cases hr : r.mapM f with
    | none => simp [ha, hr] at h
    | some xs =>
     simp [ha, hr] at h
     subst h
     obtain ⟨h1, h2⟩ := ih xs hr
     refine ⟨by simp [h1], fun i hi1 hi2 => ?_⟩
     cases i with
     | zero => simpa using ha
     | succ i => simpa using h2 i (by simpa using hi1) (by simpa using hi2)
 have := key _ _ h
 simp only [List.length_range] at this
 exact ⟨this.1, fun i hi => by simpa using this.2 i (by omega) hi⟩

/-- Cells that are read are there, in a row. -/
theorem D2j {w : World} {base n : Nat} {a : Addr} {vs : List Value} (h : w.cells? base a n = some vs) (hn : 0 < n) : a.spot = none ∧ a.block < w.heap.size ∧ vs.length = n ∧ ∀ i (hi : i < vs.length), w.cell? ⟨a.block, a.off + i, none⟩ = some vs[i] := by
 unfold World.cells? at h
 split at h
 ·obtain ⟨h1, h2⟩ := A75 h
  have h0 := h2 0 (by omega)
  simp only [Addr.add, if_true] at h0
  have hs : a.spot = none ∧ a.block < w.heap.size := by
   unfold World.cell? at h0
   split at h0
   ·rename_i c _ _ hc
    refine ⟨?_, ?_⟩
    ·cases hsp : a.spot with
     | none => rfl
     | some s => simp [hsp] at h0
    ·exact (Array.getElem?_eq_some_iff.1 hc).1
   ·cases h0
  refine ⟨hs.1, hs.2, h1, fun i hi => ?_⟩
  have := h2 i hi
  rw [← this]
  congr 1
  unfold Addr.add
  split
  ·rename_i e; subst e; cases a; simp_all
  ·rfl
 ·cases h

theorem C64 {A : Nat → Prop} {w : World} {P : Program} {ok : TypeId → List T → Prop} : ∀ {ts : List TypeId} {vs : List Value}, vs.length = (ts.map P.cellsOf).sum →
  (∀ j (h : j < ts.length), ∃ cs, CTs A w cs ((vs.drop ((ts.take j).map P.cellsOf).sum).take (P.cellsOf ts[j])) ∧ ok ts[j] cs) → ∃ cs, CTs A w cs vs ∧ parts ok ts cs
 | [], vs, hl, _ => ⟨[], by simp at hl; simp [CTs, hl], by simp [parts]⟩
 | t :: ts, vs, hl, h => by
  simp only [List.map_cons, List.sum_cons] at hl
  obtain ⟨a, ha, hoa⟩ := h 0 (by simp)
  simp only [List.take_zero, List.map_nil, List.sum_nil, List.drop_zero, List.getElem_cons_zero] at ha hoa
  obtain ⟨b, hb, hob⟩ := C64 (P := P) (ok := ok) (ts := ts) (vs := vs.drop (P.cellsOf t)) (by simp [hl]) fun j hj => by
   obtain ⟨cs, h1, h2⟩ := h (j + 1) (by simpa using hj)
   simp only [List.take_succ_cons, List.map_cons, List.sum_cons, List.getElem_cons_succ] at h1 h2
   exact ⟨cs, by rw [List.drop_drop]; exact h1, h2⟩
  refine ⟨a ++ b, ?_, a, b, rfl, hoa, hob⟩
  have := ha.append hb
  rwa [List.take_append_drop] at this

section
variable {H : Type} {enc : TypeId × Value → H} {P : Program} {w : World} {base : Nat} {spare : Nat → Bool} {held : Bool} {fuel : Nat} {t : TypeId} {vs : List Value} {x : DataW H × List MemPlace}

theorem D7o (hu : P.underlying t = some .bool) (h : DataW.trod enc P w base spare held (fuel + 1) t vs = some x) : ∃ b, vs = [.bool b] := by
 rcases vs with _ | ⟨v, _ | ⟨v', r⟩⟩
 ·simp [DataW.trod, hu] at h
 ·cases v <;> simp [DataW.trod, hu] at h
  exact ⟨_, rfl⟩
 ·simp [DataW.trod, hu] at h

theorem D9n {k : IntKind} (hu : P.underlying t = some (.int k)) (h : DataW.trod enc P w base spare held (fuel + 1) t vs = some x) : ∃ n, vs = [.int k n] ∧ (Lit.int k n).wf = true := by
 rcases vs with _ | ⟨v, _ | ⟨v', r⟩⟩
 ·simp [DataW.trod, hu] at h
 ·cases v <;> simp [DataW.trod, hu] at h
  obtain ⟨⟨rfl, hw⟩, _⟩ := h
  exact ⟨_, rfl, hw⟩
 ·simp [DataW.trod, hu] at h

theorem D5d {k : FloatKind} (hu : P.underlying t = some (.float k)) (h : DataW.trod enc P w base spare held (fuel + 1) t vs = some x) : ∃ n, vs = [.float k n] ∧ (Lit.float k n).wf = true := by
 rcases vs with _ | ⟨v, _ | ⟨v', r⟩⟩
 ·simp [DataW.trod, hu] at h
 ·cases v <;> simp [DataW.trod, hu] at h
  obtain ⟨⟨rfl, hw⟩, _⟩ := h
  exact ⟨_, rfl, hw⟩
 ·simp [DataW.trod, hu] at h

theorem D44 (hu : P.underlying t = some .string) (h : DataW.trod enc P w base spare held (fuel + 1) t vs = some x) : ∃ s, vs = [.string s] ∧ s.size ≤ maxLen ∧ x.1 = .lit (.string s.data.toList) := by
 rcases vs with _ | ⟨v, _ | ⟨v', r⟩⟩
 ·simp [DataW.trod, hu] at h
 ·cases v <;> simp [DataW.trod, hu] at h
  exact ⟨_, rfl, h.1, by rw [← h.2]⟩
 ·simp [DataW.trod, hu] at h

theorem D5w {e : TypeId} (hu : P.underlying t = some (.slice e)) (h : DataW.trod enc P w base spare held (fuel + 1) t vs = some x) :
  vs = [.slice none 0 0] ∨ ∃ a len cap elems, vs = [.slice (some a) len cap] ∧ len ≤ cap ∧ cap ≤ maxLen ∧ (List.range len).mapM (fun i => (w.cells? base (a.add (i * P.cellsOf e)) (P.cellsOf e)).bind (DataW.trod enc P w base spare held fuel e)) = some elems ∧ ∃ rest : List (DataW H × List MemPlace), x.1 = .slice (elems.map (·.1)) (rest.map (·.1)) := by
 rcases vs with _ | ⟨v, _ | ⟨v', r⟩⟩
 ·simp [DataW.trod, hu] at h
 ·cases v with
  | slice a len cap =>
   cases a with
   | none =>
    left
    unfold DataW.trod at h
    rw [hu] at h
    split at h <;> simp_all
   | some a =>
    right
    simp only [DataW.trod, hu] at h
    split at h
    ·rename_i hc
     obtain ⟨elems, he, h3⟩ := Option.bind_eq_some_iff.1 h
     obtain ⟨rest, _, rfl⟩ := Option.map_eq_some_iff.1 h3
     exact ⟨a, len, cap, elems, rfl, hc.2.1, hc.2.2, he, rest, rfl⟩
    ·cases h
  | _ => simp [DataW.trod, hu] at h
 ·simp [DataW.trod, hu] at h

theorem C7m {α β : Type} {f : α → Option β} : ∀ {r : List α} {l : List β}, r.mapM f = some l → l.length = r.length ∧ ∀ i (h1 : i < r.length) (h2 : i < l.length), f r[i] = some l[i]
 | [], l, h => by simp at h; subst h; simp
 | a :: r, l, h => by
  rw [List.mapM_cons] at h
  cases ha : f a with
  | none => simp [ha] at h
  | some x =>
   cases hr : r.mapM f with
   | none => simp [ha, hr] at h
   | some xs =>
    simp [ha, hr] at h
    subst h
    obtain ⟨h1, h2⟩ := C7m hr
    refine ⟨by simp [h1], fun i hi1 hi2 => ?_⟩
    cases i with
    | zero => simpa using ha
    | succ i => simpa using h2 i (by simpa using hi1) (by simpa using hi2)

theorem D3g {fs : Array Field} (hu : P.underlying t = some (.struct fs)) (h : DataW.trod enc P w base spare held (fuel + 1) t vs = some x) :
  vs.length = P.cellsOf t ∧ ∃ xs : List (DataW H × List MemPlace), x.1 = .agg (xs.map (·.1)) ∧ ∀ j (hj : j < fs.toList.length), ∃ y, xs[j]? = some y ∧ DataW.trod enc P w base spare held fuel fs.toList[j].type ((vs.drop fs.toList[j].offset).take (P.cellsOf fs.toList[j].type)) = some y := by
 simp only [DataW.trod, hu] at h
 split at h
 ·rename_i hc
  obtain ⟨xs, hx, rfl⟩ := Option.map_eq_some_iff.1 h
  obtain ⟨h1, h2⟩ := C7m hx
  exact ⟨hc, xs, rfl, fun j hj => ⟨xs[j], List.getElem?_eq_getElem (by omega), h2 j hj (by omega)⟩⟩
 ·cases h

theorem D5t {e : TypeId} {n : Nat} (hu : P.underlying t = some (.array n e)) (h : DataW.trod enc P w base spare held (fuel + 1) t vs = some x) :
  vs.length = P.cellsOf t ∧ ∃ xs : List (DataW H × List MemPlace), x.1 = .agg (xs.map (·.1)) ∧ ∀ i < n, ∃ y, xs[i]? = some y ∧ DataW.trod enc P w base spare held fuel e ((vs.drop (i * P.cellsOf e)).take (P.cellsOf e)) = some y := by
 simp only [DataW.trod, hu] at h
 split at h
 ·rename_i hc
  obtain ⟨xs, hx, rfl⟩ := Option.map_eq_some_iff.1 h
  obtain ⟨h1, h2⟩ := A75 hx
  exact ⟨hc, xs, rfl, fun i hi => ⟨xs[i], List.getElem?_eq_getElem (by omega), h2 i (by omega)⟩⟩
 ·cases h

theorem E1c {e : TypeId} {n : Nat} : ∀ {ds : List (DataW H)} {d : DataW H}, d ∈ ds → n ∈ d.weights P e → n ∈ DataW.weightsAll P e ds
 | d :: ds, x, h, hn => by
  simp only [DataW.weightsAll, List.mem_append]
  rcases List.mem_cons.1 h with rfl | h
  ·exact Or.inl hn
  ·exact Or.inr (E1c h hn)

theorem E13 {n : Nat} : ∀ {ts : List TypeId} {ds : List (DataW H)} {j : Nat} {t : TypeId} {d : DataW H}, ts[j]? = some t → ds[j]? = some d → n ∈ d.weights P t → n ∈ DataW.weightsEach P ts ds
 | [], _, j, _, _, h, _, _ => by simp at h
 | _ :: _, [], j, _, _, _, h, _ => by simp at h
 | t :: ts, d :: ds, 0, _, _, h1, h2, hn => by
  simp at h1 h2; subst h1 h2
  simp only [DataW.weightsEach, List.mem_append]; exact Or.inl hn
 | t :: ts, d :: ds, j + 1, _, _, h1, h2, hn => by
  simp only [DataW.weightsEach, List.mem_append]
  exact Or.inr (E13 (j := j) (by simpa using h1) (by simpa using h2) hn)

theorem E31 {us : List TypeId} {es : List (DataW H)} {n : Nat} : ∀ {ts : List TypeId} {ds : List (DataW H)}, n ∈ DataW.weightsEach P ts ds → n ∈ DataW.weightsEach P (ts ++ us) (ds ++ es)
 | [], ds, h => by cases ds <;> simp [DataW.weightsEach] at h
 | t :: ts, [], h => by simp [DataW.weightsEach] at h
 | t :: ts, d :: ds, h => by
  simp only [List.cons_append, DataW.weightsEach, List.mem_append] at h ⊢
  exact h.imp id E31

theorem C2s {α : Type} {p : Nat → α → Prop} : ∀ n, (∀ i < n, ∃ y, p i y) → ∃ l : List α, l.length = n ∧ ∀ i (h : i < l.length), p i l[i]
 | 0, _ => ⟨[], rfl, by simp⟩
 | n + 1, h => by
  obtain ⟨l, hl, hp⟩ := C2s n fun i hi => h i (by omega)
  obtain ⟨y, hy⟩ := h n (by omega)
  refine ⟨l ++ [y], by simp [hl], fun i hi => ?_⟩
  by_cases hil : i < l.length
  ·rw [List.getElem_append_left hil]; exact hp i hil
  ·have : i = n := by simp at hi; omega
   subst this
   rw [List.getElem_append_right (by omega)]; simpa [hl] using hy

end

section
variable {H : Type} {enc : TypeId × Value → H} {P : Program} {w : World} {base : Nat} {spare : Nat → Bool} {held : Bool}

theorem D5m (hl : laidOutB P = true) {A : Nat → Prop} (hA : ∀ b, b < w.heap.size → A b) : ∀ (fuel m : Nat) (t : TypeId) (vs : List Value) (x : DataW H × List MemPlace), A7u P m t = true → t < P.types.size →
  DataW.trod enc P w base spare held fuel t vs = some x → (∀ n ∈ x.1.weights P t, n ≤ reachBytes) → ∃ cs, CTs A w cs vs ∧ okT P m t cs := by
 intro fuel
 induction fuel with
 | zero => intro m t vs x _ _ h _; simp [DataW.trod] at h
 | succ fuel ih =>
  intro m t vs x hs ht h hwt
  cases m with
  | zero => simp [A7u] at hs
  | succ m =>
  simp only [A7u] at hs
  simp only [okT]
  cases hu : P.underlying t with
  | none => simp [hu] at hs
  | some D =>
   rw [hu] at hs
   cases D with
   | bool =>
    obtain ⟨b, rfl⟩ := D7o hu h
    exact ⟨[.v (.bool b)], CTs.one (by simp [CT, Value.oneCell']), b, rfl⟩
   | int k =>
    obtain ⟨n, rfl, hw⟩ := D9n hu h
    exact ⟨[.v (.int k n)], CTs.one (by simp [CT, Value.oneCell']), n, rfl, hw⟩
   | float k =>
    obtain ⟨n, rfl, hw⟩ := D5d hu h
    exact ⟨[.v (.float k n)], CTs.one (by simp [CT, Value.oneCell']), n, rfl, hw⟩
   | string =>
    obtain ⟨s, rfl, hw, hx⟩ := D44 hu h
    exact ⟨[.v (.string s)], CTs.one (by simp [CT, Value.oneCell']), s, rfl, by have := hwt s.data.toList.length (by rw [hx]; simp [DataW.weights]); simpa using this⟩
   | slice e =>
    simp only [Bool.and_eq_true, decide_eq_true_eq] at hs
    rcases D5w hu h with rfl | ⟨a, len, cap, elems, rfl, hlc, hcm, he, rest, hx⟩
    ·exact ⟨[.sl (P.cellsOf e) []], CTs.one (by simp [CT]), [], rfl, by simp, by simp⟩
    ·obtain ⟨h1, h2⟩ := A75 he
     have hlen : len ≤ reachBytes := by
      have := hwt ((elems.length + rest.length) * P.bytesOf e) (by rw [hx]; simp [DataW.weights, hu])
      have h3 := Nat.le_mul_of_pos_right (elems.length + rest.length) hs.2.1
      omega
     have hE : ∀ i < len, ∃ c : List T, (c.length = P.cellsOf e ∧ a.spot = none ∧ a.block < w.heap.size ∧ D0 A w a.block (a.off + i * P.cellsOf e) c) ∧ okT P m e c := by
      intro i hi
      have hi2 := h2 i (by omega)
      obtain ⟨us, hus, htr⟩ := Option.bind_eq_some_iff.1 hi2
      obtain ⟨c, hc, hok⟩ := ih m e us _ hs.2.2 (kid_slice hl ht hu) htr (fun n hn => hwt n (by
       rw [hx]; simp only [DataW.weights, hu, List.mem_cons, List.mem_append]
       exact Or.inr (Or.inl (E1c (List.mem_map.2 ⟨_, List.getElem_mem (by omega), rfl⟩) hn))))
      obtain ⟨g1, g2, g3, g4⟩ := D2j hus hs.1
      have hb : (a.add (i * P.cellsOf e)).block = a.block := by unfold Addr.add; split <;> rfl
      have ho : (a.add (i * P.cellsOf e)).off = a.off + i * P.cellsOf e := by unfold Addr.add; split <;> simp_all
      rw [hb] at g2 g4
      rw [ho] at g4
      refine ⟨c, ⟨by rw [hc.len]; exact g3, ?_, g2, C7a hc g4⟩, hok⟩
      have h0 := h2 0 (by omega)
      obtain ⟨us0, hus0, _⟩ := Option.bind_eq_some_iff.1 h0
      have := (D2j hus0 hs.1).1
      simpa [Addr.add] using this
     obtain ⟨es, hes, hpe⟩ := C2s len hE
     refine ⟨[.sl (P.cellsOf e) es], CTs.one ?_, es, rfl, by rw [hes]; exact hlen, fun c hc => ?_⟩
     ·simp only [CT]
      refine ⟨some a, cap, by rw [hes], by omega, ?_⟩
      cases es with
      | nil => exact Or.inl rfl
      | cons c0 es0 =>
       obtain ⟨⟨_, hsp, hbl, _⟩, _⟩ := hpe 0 (by simp)
       refine Or.inr ⟨a.block, a.off, by cases a; simp_all, hA _ hbl, D0l fun i hi => ⟨(hpe i hi).1.1, (hpe i hi).1.2.2.2⟩⟩
     ·obtain ⟨i, hi, rfl⟩ := List.getElem_of_mem hc
      exact (hpe i hi).2
   | struct fs =>
    obtain ⟨h1, xs, hx, h2⟩ := D3g hu h
    obtain ⟨k1, k2, k3⟩ := kid_struct hl ht hu
    simp only [List.all_eq_true] at hs
    refine C64 (P := P) (by rw [h1, k2]; simp [Function.comp_def]) fun j hj => ?_
    have hj' : j < fs.toList.length := by simpa using hj
    have hmem : fs.toList[j] ∈ fs.toList := List.getElem_mem hj'
    obtain ⟨y, hxy, hy⟩ := h2 j hj'
    obtain ⟨cs, hc, ho⟩ := ih m _ _ _ (hs _ hmem) (k1 _ hmem) hy (fun n hn => hwt n (by
     rw [hx]; simp only [DataW.weights, hu]
     exact E13 (j := j) (d := y.1) (by rw [List.getElem?_map, List.getElem?_eq_getElem hj']; rfl) (by rw [List.getElem?_map, hxy]; rfl) hn))
    have hoff := k3 j _ (List.getElem?_eq_getElem hj')
    refine ⟨cs, ?_, by simpa using ho⟩
    rw [hoff] at hc
    simpa [List.map_take, Function.comp_def] using hc
   | array k e =>
    obtain ⟨h1, xs, hx, h2⟩ := D5t hu h
    obtain ⟨k1, k2⟩ := kid_array hl ht hu
    refine C64 (P := P) (by rw [h1, k2]; simp) fun j hj => ?_
    have hj' : j < k := by simpa using hj
    obtain ⟨y, hxy, hy⟩ := h2 j hj'
    obtain ⟨cs, hc, ho⟩ := ih m _ _ _ hs k1 hy (fun n hn => hwt n (by
     rw [hx]; simp only [DataW.weights, hu]
     exact E1c (List.mem_map.2 ⟨y, List.mem_of_getElem? hxy, rfl⟩) hn))
    refine ⟨cs, ?_, by simpa using ho⟩
    have : min j k = j := by omega
    simpa [List.take_replicate, List.map_replicate, this] using hc
   | _ => simp at hs

/-- The arguments of a call, by their types: each a tree, or the cells of a struct or an array. -/
def B8h (P : Program) (m : Nat) : List TypeId → List AV → Prop
 | [], xs => xs = []
 | t :: ts, xs => ∃ cs ys, xs = (match P.underlying t with
  | some (.struct _) | some (.array _ _) => AV.ag (cs.map .t)
  | _ => .t (cs.headD (.v undef))) :: ys ∧ okT P m t cs ∧ B8h P m ts ys

theorem D30 {A : Nat → Prop} {φ : Nat → Nat} : ∀ {cs : List T} {vs : List Value}, CTs A w cs vs → H7 A φ w (cs.map .t) vs
 | [], vs, h => by simp only [CTs] at h; subst h; simp [H7]
 | c :: cs, vs, h => by
  simp only [CTs] at h
  obtain ⟨v, vs', rfl, hc, h⟩ := h
  simp only [List.map_cons, H7]
  exact ⟨v, vs', rfl, by simpa only [CA] using hc, D30 h⟩

theorem C7h (hl : laidOutB P = true) {A : Nat → Prop} {φ : Nat → Nat} (hA : ∀ b, b < w.heap.size → A b) {m : Nat} : ∀ {ts : List TypeId} {vs : List Value} {ds : List (DataW H)} {ps : List MemPlace}, (∀ t ∈ ts, A7u P m t = true ∧ t < P.types.size) →
  (∀ (j : Nat) t v, ts[j]? = some t → vs[j]? = some v → Value.okWide P w .any base t v) →
  DataW.TrodAll enc P w 0 spare held ts vs ds ps → (∀ n ∈ DataW.weightsEach P ts ds, n ≤ reachBytes) → ∃ xs, H7 A φ w xs vs ∧ B8h P m ts xs
 | [], vs, ds, ps, _, _, h, _ => by
  obtain ⟨rfl, _, _⟩ := trodAll_nil h
  exact ⟨[], by simp [H7], by simp [B8h]⟩
 | t :: ts, vs, ds, ps, hs, hv, h, hwt => by
  obtain ⟨v, vs', d, ds', p, q, rfl, rfl, rfl, ⟨fuel, hd⟩, hr⟩ := trodAll_cons h
  obtain ⟨cs, hc, ho⟩ := D5m hl hA fuel m t _ _ (hs t (by simp)).1 (hs t (by simp)).2 hd (fun n hn => hwt n (by simp only [DataW.weightsEach, List.mem_append]; exact Or.inl hn))
  obtain ⟨ys, hy, hoy⟩ := C7h hl hA (fun t ht => hs t (by simp [ht])) (fun j t v h1 h2 => hv (j + 1) t v (by simpa using h1) (by simpa using h2)) hr (fun n hn => hwt n (by simp only [DataW.weightsEach, List.mem_append]; exact Or.inr hn))
  have hok := hv 0 t v rfl rfl
  refine ⟨_, ?_, ⟨cs, ys, rfl, ho, hoy⟩⟩
  simp only [H7]
  refine ⟨v, vs', rfl, ?_, hy⟩
  have hleaf : v.cells = #[v] → okT P m t cs → (∀ fs, P.underlying t ≠ some (.struct fs)) → (∀ k e, P.underlying t ≠ some (.array k e)) → CA A φ w (.t (cs.headD (.v undef))) v := by
   intro e _ _ _
   rw [e] at hc
   cases cs with
   | nil => simp [CTs] at hc
   | cons c cs =>
    simp only [CTs] at hc
    obtain ⟨u, us, hu, hcu, _⟩ := hc
    simp at hu
    obtain ⟨rfl, _⟩ := hu
    simpa only [CA, List.headD_cons] using hcu
  unfold Value.okWide at hok
  split at hok
  ·rename_i hu
   obtain ⟨ws, rfl, _⟩ := hok
   simp only [hu, CA]
   exact ⟨ws, rfl, D30 (by simpa [Value.cells] using hc)⟩
  ·rename_i hu
   obtain ⟨ws, rfl, _⟩ := hok
   simp only [hu, CA]
   exact ⟨ws, rfl, D30 (by simpa [Value.cells] using hc)⟩
  ·rename_i h1 h2
   have hne : v.cells = #[v] := by
    cases v <;> try rfl
    all_goals
     exfalso
     unfold Cell.okWide at hok
     split at hok <;> simp_all [Cell.ok]
   have := hleaf hne ho (fun fs e => h1 fs e) (fun k e' e => h2 k e' e)
   split
   ·rename_i e; exact absurd e (h1 _)
   ·rename_i e; exact absurd e (h2 _ _)
   ·exact this
end

section
variable {H : Type} {enc : TypeId × Value → H} {P : Program} {E : Env}

theorem C2f {w : World} {base : Nat} {spare : Nat → Bool} {held : Bool} : ∀ {ts : List TypeId} {vs : List Value} {ds : List (DataW H)} {ps : List MemPlace}, DataW.TrodAll enc P w base spare held ts vs ds ps → ds.length = ts.length
 | [], _, _, _, h => by obtain ⟨_, rfl, _⟩ := trodAll_nil h; rfl
 | t :: ts, _, _, _, h => by
  obtain ⟨v, vs', d, ds', p, q, rfl, rfl, rfl, _, hr⟩ := trodAll_cons h
  simp [C2f hr]

theorem B78 (hl : laidOutB P = true) {W W' : World} (hb : Below W.heap.size W W') : ∀ {ts : List TypeId} {vs : List Value} {ds : List (DataW H)} {ps : List MemPlace}, (∀ t ∈ ts, P.readableRec t = true ∧ t < P.types.size) →
  DataW.TrodAll enc P W 0 (fun _ => true) true ts vs ds ps → (∀ x ∈ ps, x.block < W.heap.size) → DataW.TrodAll enc P W' 0 (fun b => decide (b < W.heap.size)) true ts vs ds ps
 | [], [], [], _, _, h, _ => h
 | t :: ts, v :: vs, d :: ds, ps, hs, ⟨p, q, h1, h2, e⟩, hlt =>
  ⟨p, q, Below.trod hl (hs t (by simp)).1 (hs t (by simp)).2 h1 hb (fun x hx => hlt x (by rw [e]; simp [hx])),
   B78 hl hb (fun t ht => hs t (by simp [ht])) h2 (fun x hx => hlt x (by rw [e]; simp [hx])), e⟩

/-- A law that answers true whatever it is handed: what its row asks. -/
theorem D76 (hl : laidOutB P = true) {fid : FuncId} {f : Func} {s : ChangeSpec} {W : World} {base m tb : Nat} {args : Array Value} {ds gs : List (DataW H)} {before : List MemPlace} {apart fresh handsOn : Bool}
  (hb : f.body.isSome = true) (hf : P.funcs[fid]? = some f) (hE : E.gi W) (hgb : ∀ b, E.gb b → b < W.heap.size)
  (hvars : s.vars = []) (hrt : f.resultTypes = #[tb]) (htb : P.underlying tb = some .bool)
  (hfn : ∀ ds : List (DataW H), ds.length = f.params.size → s.fn H ds = { results := [.lit (.bool true)], args := ds })
  (hs : ∀ t ∈ f.params.toList, A7u P m t = true ∧ P.readableRec t = true ∧ t < P.types.size)
  (hval : ∀ (j : Nat) t v, f.params[j]? = some t → args[j]? = some v → Value.okWide P W .any base t v)
  (hW : DataW.Whole enc P f.params.toList s.vars apart W args.toList ds gs before)
  (hwt : (DataW.weightsEach P (f.params.toList ++ s.plain.varTypes P) (ds ++ gs)).all (· ≤ reachBytes) = true)
  (hm : ∀ xs, B8h P m f.params.toList xs → Meets P E fid xs [] (Bo true) []) :
  Calls P fid args W fun e W' => ∃ v, e = .returned v ∧ s.post enc P f apart fresh handsOn false W args v W' := by
 have hW' := hW
 obtain ⟨p, q, hA, hV, rfl, hfz, hnd⟩ := hW
 obtain ⟨xs, hxs, hok⟩ := C7h (base := base) (A := fun b => b < W.heap.size) (φ := id) (m := m) hl (fun b h => h) (fun t ht => ⟨(hs t ht).1, (hs t ht).2.2⟩) (fun j t v h1 h2 => hval j t v (by simpa using h1) (by simpa using h2)) hA (fun n hn => by
  have := List.all_eq_true.1 hwt n (E31 hn)
  simpa using this)
 have hM := hm xs hok
 have hrun := hM.runs (fun b => b < W.heap.size) id W args hE hgb (fun b h => h) ⟨by simp [A9], by simp [A9], by simp [A4]⟩ hxs
 rcases hrun with ⟨_, hc⟩ | ⟨v, w', hc, _⟩
 ·refine hc.mono fun e W' ⟨v, he, A', φ', hfin⟩ => ⟨v, he, ?_⟩
  have hv : v = .bool true := (U3 hfin.ca).1
  subst hv
  have hbel : Below W.heap.size W W' := ⟨hfin.os, hfin.tape, hfin.output, hfin.size, fun k hk => hfin.old k hk (by simp [A4])⟩
  rw [hvars] at hV
  obtain ⟨rfl, rfl⟩ := trodVars_none hV
  have hds : ds.length = f.params.size := by have := C2f hA; simpa using this
  have hsf := hfn ds hds
  have hold : ∀ x ∈ p, x.block < W.heap.size := fun x hx => hW'.lt x (by simpa using hx)
  simp only [List.append_nil] at hW'
  refine ⟨ds, [], p, [], p, [], hW', ?_, ?_, ?_, hbel.frame _, fun h => by cases h⟩
  ·simp only [List.append_nil, hsf, hrt]
   refine ⟨[], [], ⟨1, ?_⟩, rfl, rfl⟩
   simp [DataW.trod, htb, Value.cells]
  ·simp only [List.append_nil, hsf]
   exact B78 hl hbel (fun t ht => ⟨(hs t ht).2.1, (hs t ht).2.2⟩) hA hold
  ·simp only [List.append_nil, hsf, hvars]
   rfl
 ·exfalso
  obtain ⟨bd, hbd⟩ := Option.isSome_iff_exists.1 hb
  simp only [callFunc, Sem.run_bind, run_program, Result.andThen_ok, hf, hbd, Option.isNone_some, Bool.false_eq_true, if_false] at hc
  split at hc
  ·simp only [Sem.run_pure] at hc; cases hc
  ·simp only [Sem.run_pure] at hc; cases hc
end
end Go.Sx
