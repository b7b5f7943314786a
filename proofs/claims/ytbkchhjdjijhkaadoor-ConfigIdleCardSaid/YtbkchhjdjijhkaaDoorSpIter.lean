/- strings.SplitSeq's iterator. No statement of the seat is proved here. -/
import Derived.Test.YtbkchhjdjijhkaaDoorSpMath
import Derived.Test.YtbkchhjdjijhkaaDoorShelf
import Derived.Shelf.Strings.Search3
import Derived.RangeFuncSeq
import Derived.WalkKit
import Derived.OwnWalkIn
import Derived.TacticsInMore
import Derived.LoopNIn
import Derived.LoopIn
set_option linter.unusedSimpArgs false
set_option linter.unusedVariables false
namespace Go.Proofs.YtbkchhjdjijhkaaDoor
open Go Go.Sx Go.RowKit Go.Shelf

attribute [local go_sem] Oper.semAt_some

/-- What is left behind k parts. -/
noncomputable def leftOf (W : World) (b0 : Nat) : Nat := match W.cell? ⟨b0, 0, none⟩ with
  | some (.string r) => r.size
  | _ => 0

theorem round_wide {m m' : Nat} {P : Program} {l : Nat} {f : FuncId} {tmps : Array Value} {assign body : Code} {w : World} {R : Ending → World → Prop} (h : RoundIn Fence.wide m P l f tmps assign body w R) : RoundIn Fence.wide m' P l f tmps assign body w R :=
  ⟨trivial, fun c cs _ => h.2 c cs (room_wide _)⟩

set_option maxRecDepth 100000 in
set_option maxHeartbeats 1000000 in
theorem iter_parts (c : UInt8) (s : ByteArray) (hs0 : s.size < 4611686018427387904) : IterOk Tryd.prog 43 (.string s) (.string ⟨#[c]⟩) (.int .i64 0) ((partsB c s.data.toList).map fun l => .string ⟨l.toArray⟩) := by
  intro m l b0 b1 b2 J Stop s' W hs hcell hset hY h0
  injection hs with hs; subst hs
  refine callsIn_of_wp Tryd.func43 rfl trivial ?_ rfl
  simp only [Tryd.ntmps43, List.size_toArray, List.length_cons, List.length_nil, Nat.reduceAdd, Nat.reduceSub, Array.replicate_succ, Array.replicate_zero, List.push_toArray, List.append_toArray, List.nil_append, List.cons_append]
  obtain ⟨⟨hc0, hf0⟩, hc1, hc2⟩ := hcell 0 s W h0
  gi_wp2
  gi_loopw [] (fun wr => ∃ (k : Nat) (r : ByteArray), J k r wr ∧ (partsB c s.data.toList).drop k = partsB c r.data.toList ∧ r.size ≤ s.size) (fun wr => leftOf wr b0)
  case atStart =>
    exact ⟨0, s, h0, by simp, Nat.le_refl _⟩
  case round =>
    obtain ⟨k, r, hJ, hd, hsz⟩ := hrel
    obtain ⟨⟨hc0, hf0⟩, hc1, hc2⟩ := hcell k r _ hJ
    have hix : ∀ w, Calls Tryd.prog 45 #[.string r, .string ⟨#[c]⟩] w fun e w' => e = .returned (.int .i64 (Lib.indexByte r.data.toList c)) ∧ w' = w := fun w => Go.Proofs.Any.strings_Index_one Go.Proofs.Tryd.laysIndex r c w
    obtain ⟨i, hi⟩ : ∃ i, Lib.indexByte r.data.toList c = i := ⟨_, rfl⟩
    rw [hi] at hix
    have hpa := partsB_at c r.data.toList
    rw [hi] at hpa
    have hlen : r.data.toList.length = r.size := (Lib.size_eq r).symm
    rw [hlen] at hpa
    have hxk : ∀ x, (partsB c r.data.toList)[0]? = some x → ((partsB c s.data.toList).map fun l => Value.string ⟨l.toArray⟩)[k]? = some (.string ⟨x.toArray⟩) := by
      intro x hx
      rw [← hd] at hx
      simp only [List.getElem?_drop, Nat.add_zero] at hx
      simp [hx]
    by_cases hneg : i < 0
    · have hpart := hpa.1 hneg
      have hkl : (partsB c s.data.toList).length = k + 1 := by
        have h1 := congrArg List.length hd
        rw [hpart] at h1
        simp at h1; omega
      obtain ⟨fn, tmps, assign, body, hy, hR⟩ := hY k r wr (.string r) hJ (hxk _ (by rw [hpart]; rfl))
      gi_wp2
      refine ⟨trivial, fun h => by simp [Fence.wide] at h, ?_⟩
      refine CallsIn.mono (callsIn_wide.2 (hix _)) ?_
      rintro e w' ⟨rfl, rfl⟩
      gi_wp2
      refine ⟨fun h => by simp [Fence.wide] at h, (round_wide hR).mono ?_⟩
      have hlast : ((partsB c s.data.toList).map fun l => Value.string ⟨l.toArray⟩).length = k + 1 := by simpa using hkl
      rintro e W3 (⟨rfl, hJ3⟩ | ⟨rfl, hS3⟩)
      · gi_wp2
        go_end0
        exact ⟨⟨_, rfl⟩, .inl ⟨r, by rw [hlast]; exact hJ3⟩⟩
      · gi_wp2
        go_end0
        exact ⟨⟨_, rfl⟩, .inr hS3⟩
    · have hpos : 0 ≤ i := by omega
      obtain ⟨hilt, hpart⟩ := hpa.2 hpos
      have hw : wrap64 i = i := by unfold wrap64; omega
      have hw1 : wrap64 (i + 1) = i + 1 := by unfold wrap64; omega
      obtain ⟨fn, tmps, assign, body, hy, hR⟩ := hY k r wr (.string (r.extract 0 i.toNat)) hJ (by
        rw [hxk _ (by rw [hpart]; rfl)]
        congr 2
        exact bytes_ext (by rw [take_bytes]))
      gi_wp2
      refine ⟨trivial, fun h => by simp [Fence.wide] at h, ?_⟩
      refine CallsIn.mono (callsIn_wide.2 (hix _)) ?_
      rintro e w' ⟨rfl, rfl⟩
      gi_wp2
      refine ⟨fun h => by simp [Fence.wide] at h, (round_wide hR).mono ?_⟩
      rintro e W3 (⟨rfl, hJ3⟩ | ⟨rfl, hS3⟩)
      · obtain ⟨⟨hc0, hf0⟩, hc1, hc2⟩ := hcell _ _ _ hJ3
        gi_wp2
        have hJ4 := hset (k + 1) r (r.extract (i + 1).toNat r.size) _ hJ3
        have hi1 : (i + 1).toNat = i.toNat + 1 := by omega
        have hl4 : (r.extract (i + 1).toNat r.size).size = r.size - (i.toNat + 1) := by rw [Lib.size_eq, Lib.extract_to_end, List.length_drop, hlen, hi1]
        have hm4 : leftOf (W3.setCell ⟨b0, 0, none⟩ (.string (r.extract (i + 1).toNat r.size))) b0 = (r.extract (i + 1).toNat r.size).size := by
          unfold leftOf; rw [(hcell _ _ _ hJ4).1.1]
        have hm0 : leftOf w' b0 = r.size := by unfold leftOf; rw [(hcell _ _ _ hJ).1.1]
        refine ⟨⟨k + 1, _, hJ4, ?_, by omega⟩, by rw [hm4, hm0]; omega⟩
        rw [Lib.extract_to_end, hi1]
        have h1 := congrArg List.tail hd
        rw [hpart] at h1
        simpa using h1
      · gi_wp2
        refine bodyPost_ret (results_none rfl _ _ _) rfl ?_
        exact ⟨⟨_, rfl⟩, .inr hS3⟩

end Go.Proofs.YtbkchhjdjijhkaaDoor
