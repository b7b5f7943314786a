/- The library's numerals and joined texts. No statement of the seat is proved here. -/
import Derived.Test.YtcadhlakhdndjaaDoorLbText
import Derived.Test.YtcadhlakhdndjaaDoorRtSplit2
import Derived.Shelf.Strings.OnBuilder
import Derived.Shelf.Strconv.Itoa3
set_option linter.unusedSimpArgs false
set_option linter.unusedVariables false
namespace Go.Proofs.YtcadhlakhdndjaaDoor
open Go Go.Sx Go.RowKit Go.Shelf

theorem grown_grow (w : World) (k : Nat) (os : Array Obj) (hc : E0.cnt → False) : Grown E0 w (Sort.grow (w.drewN k) os) :=
  ⟨rfl, rfl, rfl, fun h => (hc h).elim, by simp [Sort.grow, World.drewN], fun b hb => by
    simp only [Sort.grow, World.drewN]
    rw [Array.getElem?_append_left hb]⟩

theorem f_Itoa (n : Int) (h0 : -9223372036854775808 ≤ n) (h1 : n ≤ 9223372036854775807) : Meets Tryd.prog E0 n_strconv_Itoa [I n] [] (Str (toB (Lib.itoa n))) [] := by
  refine meets_lib (vals := [.int .i64 n]) (v := .string (toB (Lib.itoa n))) (enters_of Tryd.func29 (by kernel_rfl) rfl) (fun A φ w => by simp only [CA, CT]; exact ⟨trivial, rfl⟩) rfl ?_
  intro w hE
  have ht : Lib.TabIs Tryd.prog w "internal/strconv.uint64pow10" .u64 Lib.pow10Tab := tabIs_of hE (g := g_internal_strconv_uint64pow10) (List.mem_of_getElem? (i := 2) rfl) (by kernel_rfl)
  refine Calls.mono (Go.Proofs.Any.strconv_Itoa Go.Proofs.Tryd.laysItoa n h0 h1 w ht) ?_
  rintro e w' ⟨rfl, k, os, rfl⟩
  exact ⟨rfl, grown_grow w k os (fun h => h)⟩

theorem joinExtra : Go.Proofs.Builder.Extra Tryd.prog Tryd.laysJoin_ren where
  sizeBuilder := by kernel_rfl
  liesBuilder := by kernel_rfl
  t5 := Tryd.underlying5
  a5 := Tryd.isAgg5
  z5 := Tryd.sizeOf5
  v5 := Tryd.zeroValue5
  infoByte := by kernel_rfl
  cellsByte := by kernel_rfl
  sizeByte := by kernel_rfl
  neB5 := by decide

/-- A text of parts, with something between them. -/
def joinB (xs : List ByteArray) (sep : ByteArray) : ByteArray := toB (Lib.join (xs.map (·.data.toList)) sep.data.toList)

theorem f_Join (xs : List ByteArray) (sep : ByteArray) (h1 : xs.length ≤ 140737488355328) (h2 : (Lib.join (xs.map (·.data.toList)) sep.data.toList).length ≤ 140737488355328) :
    Meets Tryd.prog E0 n_strings_Join [.t (.sl 1 (xs.map rowS)), Str sep] [] (Str (joinB xs sep)) [] := by
  refine meets_lib2 (v := .string (joinB xs sep)) rfl (enters_of Tryd.func30 (by kernel_rfl) rfl) (fun A φ w => by simp only [CA, CT]; exact ⟨trivial, rfl⟩) rfl ?_
  intro A φ w args hE alt hargs
  simp only [CAs, CA, CT] at hargs
  obtain ⟨_, _, e1, ⟨a, cap, rfl, hcap, hrow⟩, _, _, rfl, ⟨rfl, _⟩, rfl⟩ := hargs
  obtain rfl : args = #[.slice a xs.length cap, .string sep] := by cases args; simp_all
  rw [List.length_map] at hcap
  by_cases hx : xs = []
  · subst hx
    refine Calls.mono (Go.Proofs.Any.strings_Join_none Go.Proofs.Tryd.laysJoin joinExtra a cap sep w) ?_
    rintro e w' ⟨rfl, rfl⟩
    refine ⟨?_, Grown.refl _⟩
    congr 2
  · rcases hrow with hrow | ⟨b, o, rfl, hA, hrow⟩
    · exact absurd (by simpa using hrow) hx
    · have hcells : ∀ (j : Nat) x, xs[j]? = some x → w.cell? ⟨b, o + j, none⟩ = some (.string x) := by
        intro j x hj
        have hr := hrow.get (i := j) (e := rowS x) (by rw [List.getElem?_map, hj]; rfl)
        obtain ⟨y, hy, hc⟩ := hr.2.get (i := 0) (c := .v (.string x)) rfl
        simp only [CT] at hc
        rw [Nat.mul_one, Nat.add_zero, hc.1] at hy
        exact hy
      refine Calls.mono (Go.Proofs.Any.strings_Join Go.Proofs.Tryd.laysJoin joinExtra b o cap xs sep w hcells (alt b hA) h1 hcap h2) ?_
      rintro e w' ⟨rfl, hb⟩
      exact ⟨rfl, grown_of_below hb (fun h => h)⟩

end Go.Proofs.YtcadhlakhdndjaaDoor
