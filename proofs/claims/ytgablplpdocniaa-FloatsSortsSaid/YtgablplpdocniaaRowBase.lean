/- Facts on the program that each row asks. No statement of the seat is proved here. -/
import Derived.Test.YtgablplpdocniaaSlim
import Derived.Test.YtgablplpdocniaaSxRow
import Derived.Test.YtgablplpdocniaaSxH
set_option linter.unusedSimpArgs false
set_option linter.unusedVariables false
namespace Go.Proofs.Ytgablplpdocniaa
open Go Go.Sx

theorem Try.own : ownKnob Try.prog.godebug = none := by kernel_rfl

theorem Try.laidOut : laidOutB Try.prog = true := by kernel_rfl

theorem u64_wf {i : Int} (h : (Lit.int .u64 i).wf = true) : ∃ x : Nat, x < 18446744073709551616 ∧ i = x := by
  simp [Lit.wf, IntKind.has, IntKind.min, IntKind.max, IntKind.signed, IntKind.bits] at h
  exact ⟨i.toNat, by omega, by omega⟩

theorem u8_wf {i : Int} (h : (Lit.int .u8 i).wf = true) : ∃ x : Nat, x < 256 ∧ i = x := by
  simp [Lit.wf, IntKind.has, IntKind.min, IntKind.max, IntKind.signed, IntKind.bits] at h
  exact ⟨i.toNat, by omega, by omega⟩

theorem u16_wf {i : Int} (h : (Lit.int .u16 i).wf = true) : ∃ x : Nat, x < 65536 ∧ i = x := by
  simp [Lit.wf, IntKind.has, IntKind.min, IntKind.max, IntKind.signed, IntKind.bits] at h
  exact ⟨i.toNat, by omega, by omega⟩

theorem i64_wf {i : Int} (h : (Lit.int .i64 i).wf = true) : -9223372036854775808 ≤ i ∧ i < 9223372036854775808 := by
  simp [Lit.wf, IntKind.has, IntKind.min, IntKind.max, IntKind.signed, IntKind.bits] at h
  omega

end Go.Proofs.Ytgablplpdocniaa
