/- A text of digits alone, the program's way: the walk. No statement of the seat is proved here. -/
import Derived.Test.YtcadhlakhdndjaaDoorRtWhole
import Derived.Shelf.Strings.SlTrimAscii
import Derived.Shelf.Strconv.ParseIntPublic10
import Derived.WalkKit
import Derived.TacticsInMore
set_option linter.unusedSimpArgs false
set_option linter.unusedVariables false
namespace Go.Proofs.YtcadhlakhdndjaaDoor
open Go Go.Sx Go.RowKit Go.Shelf

theorem isE (s : ByteArray) : s.toList.isEmpty = decide (s.size = 0) := by
  rw [Lib.toList_data, ← ba_len]
  cases s.data.toList <;> simp

set_option maxRecDepth 100000 in
theorem calls_whole (s : ByteArray) (hs : s.size ≤ 140737488351232) (w : World) (hE : E0.gi w) : Calls Tryd.prog 25 #[.string s] w fun e w' => e = .returned (.tuple #[.int .i64 (rtWhole s.data.toList).1, .int .i64 (rtWhole s.data.toList).2]) ∧ Below w.heap.size w w' := by
  have hT : ∀ w, Calls Tryd.prog 36 #[.string s, .string ⟨#[48, 49, 50, 51, 52, 53, 54, 55, 56, 57]⟩] w fun e w' => e = .returned (.string ⟨(Lib.trimS s.data.toList digits10.data.toList).toArray⟩) ∧ Below w.heap.size w w' := fun w =>
    Go.Proofs.Any.strings_Trim_laid Tryd.laysTrim (by kernel_rfl) s digits10 w (by omega) (by decide) (ascii_of_all (by decide))
  obtain ⟨te, pe, hev⟩ : ∃ te pe, w.cell? ⟨g_strconv_ErrRange, 0, none⟩ = some (.iface te pe) := hE.2 _ (by decide)
  obtain ⟨r, hr⟩ : ∃ r : ByteArray, r = ⟨(Lib.trimS s.data.toList digits10.data.toList).toArray⟩ := ⟨_, rfl⟩
  have hrs : r.size = 0 ↔ s.data.toList.all digB = true := by
    have e1 : r.size = (Lib.trimS s.data.toList digits10.data.toList).length := by rw [hr, ← ba_len]
    rw [e1, List.length_eq_zero_iff, trimS_nil, List.all_eq_true]
    exact forall_congr' fun b => imp_congr_right fun _ => by rw [dig_in]
  rw [← hr] at hT
  clear hr
  by_cases h0 : s.size = 0
  · have hem : s.toList.isEmpty = true := by rw [isE]; simpa using h0
    have hw : rtWhole s.data.toList = (0, 2) := by
      have : s.data.toList = [] := List.eq_nil_of_length_eq_zero (by rw [ba_len]; exact h0)
      rw [this]; rfl
    rw [hw]
    clear hrs hw
    go_enter Tryd.func25, Tryd.ntmps25
    go_wp2
    go_ret2
    exact ⟨rfl, Below.refl _ _⟩
  · have hem : s.toList.isEmpty = false := by rw [isE]; simpa using h0
    have hne : s.data.toList ≠ [] := by intro h; rw [← ba_len, h] at h0; exact h0 rfl
    by_cases hd : s.data.toList.all digB = true
    · have hre : r.toList.isEmpty = true := by rw [isE]; simpa using hrs.2 hd
      have hv := rtNum_val s.data.toList hd 0 0 (by simp)
      have hn : (rtNum 0 s.data.toList).2 = [] := (rtNum_all _ _).2 hd
      have hw : rtWhole s.data.toList = if rtVal 0 s.data.toList > 1099511627776 then (0, 3) else (((rtVal 0 s.data.toList : Nat) : Int), 0) := by
        unfold rtWhole
        rw [if_pos ⟨hne, hn⟩, hv]
        generalize rtVal 0 s.data.toList = v
        by_cases h : v > 1099511627776
        · rw [if_pos h, if_pos (by omega)]
        · rw [if_neg h, if_neg (by omega)]
          congr 2; omega
      have hp := parseI_of s.data.toList hne hd
      rw [hw]
      obtain ⟨v, hvv⟩ : ∃ v : Nat, rtVal 0 s.data.toList = v := ⟨_, rfl⟩
      rw [hvv] at hp ⊢
      clear hw hn hv hrs hvv hd
      rcases hp with ⟨hle, hp⟩ | ⟨hgt, hp | hp⟩
      · have hI : ∀ w, Calls Tryd.prog 39 #[.string s, .int .i64 10, .int .i64 64] w fun e w' => e = .returned (.tuple #[.int .i64 (v : Int), .nilIface]) ∧ Below w.heap.size w w' := fun w =>
          (Go.Proofs.Any.strconv_ParseInt_10_at64_ok Tryd.laysParseInt s (by omega) v hp w).mono fun e w' ⟨h1, h2⟩ => ⟨h1, by rcases h2 with rfl | ⟨t, rfl⟩; exact Below.refl _ _; exact Lib.bytesWorld_below _ _ _⟩
        rw [if_neg (by omega)]
        obtain ⟨a, ha⟩ : ∃ a : Int, a = (v : Int) := ⟨_, rfl⟩
        rw [← ha] at hI ⊢
        have hle' : ¬ (1099511627776 < a) := by omega
        clear hle ha hp hev
        go_enter Tryd.func25, Tryd.ntmps25
        go_wp2_with (go_at_call 36; refine (hT _).mono ?_; rintro e W1 ⟨rfl, hb1⟩)
        go_wp2_with (go_at_call 39; refine (hI _).mono ?_; rintro e W2 ⟨rfl, hb2⟩)
        go_wp2
        go_ret2
        exact ⟨rfl, hb1.trans (hb2.mono hb1.size)⟩
      · have hI : ∀ w, Calls Tryd.prog 39 #[.string s, .int .i64 10, .int .i64 64] w fun e w' => e = .returned (.tuple #[.int .i64 (v : Int), .nilIface]) ∧ Below w.heap.size w w' := fun w =>
          (Go.Proofs.Any.strconv_ParseInt_10_at64_ok Tryd.laysParseInt s (by omega) v hp w).mono fun e w' ⟨h1, h2⟩ => ⟨h1, by rcases h2 with rfl | ⟨t, rfl⟩; exact Below.refl _ _; exact Lib.bytesWorld_below _ _ _⟩
        rw [if_pos (by omega)]
        obtain ⟨a, ha⟩ : ∃ a : Int, a = (v : Int) := ⟨_, rfl⟩
        rw [← ha] at hI
        have hle' : 1099511627776 < a := by omega
        clear hgt ha hp hev
        go_enter Tryd.func25, Tryd.ntmps25
        go_wp2_with (go_at_call 36; refine (hT _).mono ?_; rintro e W1 ⟨rfl, hb1⟩)
        go_wp2_with (go_at_call 39; refine (hI _).mono ?_; rintro e W2 ⟨rfl, hb2⟩)
        go_wp2
        go_ret2
        exact ⟨rfl, hb1.trans (hb2.mono hb1.size)⟩
      · have hI : ∀ w1, w1.cell? ⟨g_strconv_ErrRange, 0, none⟩ = some (.iface te pe) → Calls Tryd.prog 39 #[.string s, .int .i64 10, .int .i64 64] w1 fun e w' => ∃ N a t, e = .returned (.tuple #[.int .i64 a, .iface t (.pointer (some ⟨N, 0, none⟩))]) ∧ Below w1.heap.size w1 w' := fun w1 h1 =>
          (Go.Proofs.Any.strconv_ParseInt_10_at64_range Tryd.laysParseInt s (by omega) hp (.iface te pe) w1 h1 (Or.inr ⟨te, pe, rfl⟩)).mono fun e w' ⟨N, h1, _, _, h2⟩ => ⟨N, _, _, h1, h2⟩
        rw [if_pos (by omega)]
        have hlt : g_strconv_ErrRange < w.heap.size := Lib.lt_of_cell hev
        have hev' : ∀ w1, Below w.heap.size w w1 → w1.cell? ⟨g_strconv_ErrRange, 0, none⟩ = some (.iface te pe) := fun w1 hb => (hb.cell (show (⟨g_strconv_ErrRange, 0, none⟩ : Addr).block < w.heap.size from hlt)).trans hev
        clear hgt hp hev hlt
        go_enter Tryd.func25, Tryd.ntmps25
        go_wp2_with (go_at_call 36; refine (hT _).mono ?_; rintro e W1 ⟨rfl, hb1⟩)
        go_wp2_with (go_at_call 39; refine (hI _ (hev' _ hb1)).mono ?_; rintro e W2 ⟨N, a, t, rfl, hb2⟩)
        go_wp2
        go_ret2
        exact ⟨rfl, hb1.trans (hb2.mono hb1.size)⟩
    · have hre : r.toList.isEmpty = false := by rw [isE]; exact decide_eq_false (fun h => hd (hrs.1 h))
      have hw : rtWhole s.data.toList = (0, 2) := by
        unfold rtWhole
        rw [if_neg]
        rintro ⟨_, h⟩; exact hd ((rtNum_all _ _).1 h)
      rw [hw]
      clear hw hrs hd hev
      go_enter Tryd.func25, Tryd.ntmps25
      go_wp2_with (go_at_call 36; refine (hT _).mono ?_; rintro e W1 ⟨rfl, hb1⟩)
      go_wp2
      go_ret2
      exact ⟨rfl, hb1⟩

theorem f_retention_whole (s : ByteArray) (hs : s.size ≤ 140737488351232) : Meets Tryd.prog E0 n_retention_whole [Str s] [] (.tp [I (rtWhole s.data.toList).1, I (rtWhole s.data.toList).2]) [] := by
  refine meets_lib (vals := [.string s]) (v := .tuple #[.int .i64 (rtWhole s.data.toList).1, .int .i64 (rtWhole s.data.toList).2]) (enters_of Tryd.func25 (by kernel_rfl) rfl) (fun A φ w => by simp only [CA, CAs, CT]; exact ⟨_, rfl, _, _, rfl, ⟨rfl, rfl⟩, _, _, rfl, ⟨rfl, rfl⟩, rfl⟩) rfl ?_
  intro w hE
  refine Calls.mono (calls_whole s hs w hE) ?_
  rintro e w' ⟨rfl, hb⟩
  exact ⟨rfl, grown_of_below hb (fun h => h)⟩

end Go.Proofs.YtcadhlakhdndjaaDoor
