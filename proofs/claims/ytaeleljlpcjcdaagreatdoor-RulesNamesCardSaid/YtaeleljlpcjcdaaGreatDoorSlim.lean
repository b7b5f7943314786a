/- The slim code of the functions of this seat: written by a program of mine. No statement of the seat is proved here. -/
import Derived.Test.YtaeleljlpcjcdaaGreatDoorSlimA
set_option linter.unusedSimpArgs false
set_option linter.unusedVariables false
namespace Go.Proofs.YtaeleljlpcjcdaaGreatDoor
open Go Go.Sx Go.Sl


-- 136 isobar/retention.Span
abbrev v136 : List Nat := [0, 2, 3, 4, 5, 6, 7, 9, 24, 31]
def s_retention_Span : SC := (.seq (q 100 [o 2 (.mv (z 0)), o 3 (.mv (z 0))] v136) (.seq (.seq (q 102 [m 8 0, o 9 (.bin .eql (t 8) (.c (.t (.v (.string (bs []))))))] v136) (.cond (t 9) (.seq (q 104 [o 2 (.mv (z 0)), o 3 (.mv (z 2))] v136) .ret) .skip)) (.seq (q 106 [m 10 0, o 11 (.len true (t 10)), o 12 (.bin .sub (t 11) (z 1)), m 4 12] v136) (.seq (q 110 [m 13 0, m 14 4, o 15 (.ix none (t 13) (t 14)), c 16 (fn n_strings_IndexByte) [(.c (.t (.v (.string (bs [115, 109, 104, 100, 119, 121]))))), (t 15)], m 5 16] v136) (.seq (q 115 [m 18 0, m 19 4, o 20 (.sli 0 (t 18) none (some (t 19))), c 21 (fn n_retention_whole) [t 20], m 17 21, o 22 (.ext (t 17) 0), o 23 (.ext (t 17) 1), m 6 22, m 7 23] v136) (.seq (.block 0 (.seq (q 124 [m 25 5, o 26 (.bin .lss (t 25) (z 0)), m 27 26, g 28 27 false (.mv (t 7)), g 29 27 false (.bin .eql (t 28) (z 2)), o 30 (.pick (t 27) (bo true) (t 29)), m 24 30] v136) (.cond (t 24) (.seq (q 131 [o 2 (.mv (z 0)), o 3 (.mv (z 2))] v136) .ret) (.seq (q 133 [m 32 7, o 33 (.bin .neq (t 32) (z 0)), m 34 33, g 35 34 false (.mv (t 6)), g 36 34 false (.mv (t 5)), g 37 34 false (.ia (some 6) 1 (.c (.ipt [(.v (.int .i64 1)), (.v (.int .i64 60)), (.v (.int .i64 3600)), (.v (.int .i64 86400)), (.v (.int .i64 604800)), (.v (.int .i64 31536000))])) (t 36)), g 38 34 false (.load false 1 (t 37)), g 39 34 false (.bin .quo (z 1099511627776) (t 38)), g 40 34 false (.bin .gtr (t 35) (t 39)), o 41 (.pick (t 34) (bo true) (t 40)), m 31 41] v136) (.cond (t 31) (.seq (q 144 [o 2 (.mv (z 0)), o 3 (.mv (z 3))] v136) .ret) .skip))))) (.seq (q 146 [m 42 6, m 43 5, o 44 (.ia (some 6) 1 (.c (.ipt [(.v (.int .i64 1)), (.v (.int .i64 60)), (.v (.int .i64 3600)), (.v (.int .i64 86400)), (.v (.int .i64 604800)), (.v (.int .i64 31536000))])) (t 43)), o 45 (.load false 1 (t 44)), o 46 (.bin .mul (t 42) (t 45)), m 2 46, o 3 (.mv (z 0))] v136) .ret)))))))
def r_retention_Span : List RV := [(.tmp 2), (.tmp 3)]
theorem m_retention_Span : Slk Tryz.prog E0 n_retention_Span 47 s_retention_Span r_retention_Span := slk_of (vars := v136) (b' := 153) mixed GOK0 Tryz.func136 rfl (by kernel_rfl) (by kernel_rfl) Tryz.ntmps136 (by kernel_rfl)

-- 137 strings.TrimPrefix
abbrev v137 : List Nat := [0, 1, 4]
def s_strings_TrimPrefix : SC := (.seq (q 100 [o 4 (.mv (.c (.t (.v (.string (bs []))))))] v137) (.seq (q 101 [m 5 0, m 6 1, c 7 (fn n_stringslite_TrimPrefix) [(t 5), (t 6)], m 4 7] v137) .ret))
def r_strings_TrimPrefix : List RV := [(.tmp 4)]
theorem m_strings_TrimPrefix : Slk Tryz.prog E0 n_strings_TrimPrefix 8 s_strings_TrimPrefix r_strings_TrimPrefix := slk_of (vars := v137) (b' := 105) mixed GOK0 Tryz.func137 rfl (by kernel_rfl) (by kernel_rfl) Tryz.ntmps137 (by kernel_rfl)

-- 138 isobar/decimal.digits
abbrev v138 : List Nat := [0, 2, 3, 19]
def s_decimal_digits : SC := (.seq (q 100 [o 2 (.mv (z 0))] v138) (.seq (q 101 [o 3 (.mv (z 0))] v138) (.seq (.block 0 (.loop (.seq (.seq (q 102 [m 4 3, m 5 0, o 6 (.len true (t 5)), o 7 (.bin .lss (t 4) (t 6)), m 8 7, g 9 8 true (.mv (t 0)), g 10 8 true (.mv (t 3)), g 11 8 true (.ix none (t 9) (t 10)), g 12 8 true (.bin .geq (t 11) (.c (.t (.v (.int .u8 (48 : Nat)))))), o 13 (.pick (t 8) (t 12) (bo false)), m 14 13, g 15 14 true (.mv (t 0)), g 16 14 true (.mv (t 3)), g 17 14 true (.ix none (t 15) (t 16)), g 18 14 true (.bin .leq (t 17) (.c (.t (.v (.int .u8 (57 : Nat)))))), o 19 (.pick (t 14) (t 18) (bo false))] v138) (.cond (t 19) .skip (.exit 0))) (.block 1 (q 118 [m 20 3, o 21 (.bin .add (t 20) (z 1)), m 3 21] v138))))) (.seq (q 121 [m 22 3, m 2 22] v138) .ret))))
def r_decimal_digits : List RV := [(.tmp 2)]
theorem m_decimal_digits : Slk Tryz.prog E0 n_decimal_digits 23 s_decimal_digits r_decimal_digits := slk_of (vars := v138) (b' := 123) mixed GOK0 Tryz.func138 rfl (by kernel_rfl) (by kernel_rfl) Tryz.ntmps138 (by kernel_rfl)

-- 141 internal/stringslite.HasSuffix
abbrev v141 : List Nat := [0, 1, 4]
def s_stringslite_HasSuffix : SC := (.seq (q 100 [o 4 (.mv (bo false))] v141) (.seq (q 101 [m 5 0, o 6 (.len true (t 5)), m 7 1, o 8 (.len true (t 7)), o 9 (.bin .geq (t 6) (t 8)), m 10 9, g 11 10 true (.mv (t 0)), g 12 10 true (.mv (t 0)), g 13 10 true (.len true (t 12)), g 14 10 true (.mv (t 1)), g 15 10 true (.len true (t 14)), g 16 10 true (.bin .sub (t 13) (t 15)), g 17 10 true (.sli 0 (t 11) (some (t 16)) none), g 18 10 true (.mv (t 1)), g 19 10 true (.bin .eql (t 17) (t 18)), o 20 (.pick (t 10) (t 19) (bo false)), m 4 20] v141) .ret))
def r_stringslite_HasSuffix : List RV := [(.tmp 4)]
theorem m_stringslite_HasSuffix : Slk Tryz.prog E0 n_stringslite_HasSuffix 21 s_stringslite_HasSuffix r_stringslite_HasSuffix := slk_of (vars := v141) (b' := 118) mixed GOK0 Tryz.func141 rfl (by kernel_rfl) (by kernel_rfl) Tryz.ntmps141 (by kernel_rfl)

-- 142 internal/stringslite.HasPrefix
abbrev v142 : List Nat := [0, 1, 4]
def s_stringslite_HasPrefix : SC := (.seq (q 100 [o 4 (.mv (bo false))] v142) (.seq (q 101 [m 5 0, o 6 (.len true (t 5)), m 7 1, o 8 (.len true (t 7)), o 9 (.bin .geq (t 6) (t 8)), m 10 9, g 11 10 true (.mv (t 0)), g 12 10 true (.mv (t 1)), g 13 10 true (.len true (t 12)), g 14 10 true (.sli 0 (t 11) none (some (t 13))), g 15 10 true (.mv (t 1)), g 16 10 true (.bin .eql (t 14) (t 15)), o 17 (.pick (t 10) (t 16) (bo false)), m 4 17] v142) .ret))
def r_stringslite_HasPrefix : List RV := [(.tmp 4)]
theorem m_stringslite_HasPrefix : Slk Tryz.prog E0 n_stringslite_HasPrefix 18 s_stringslite_HasPrefix r_stringslite_HasPrefix := slk_of (vars := v142) (b' := 115) mixed GOK0 Tryz.func142 rfl (by kernel_rfl) (by kernel_rfl) Tryz.ntmps142 (by kernel_rfl)

-- 149 internal/stringslite.TrimPrefix
abbrev v149 : List Nat := [0, 1, 4, 7]
def s_stringslite_TrimPrefix : SC := (.seq (q 100 [o 4 (.mv (.c (.t (.v (.string (bs []))))))] v149) (.seq (.seq (q 101 [m 5 0, m 6 1, c 7 (fn n_stringslite_HasPrefix) [(t 5), (t 6)]] v149) (.cond (t 7) (.seq (q 104 [m 8 0, m 9 1, o 10 (.len true (t 9)), o 11 (.sli 0 (t 8) (some (t 10)) none), m 4 11] v149) .ret) .skip)) (.seq (q 109 [m 12 0, m 4 12] v149) .ret)))
def r_stringslite_TrimPrefix : List RV := [(.tmp 4)]
theorem m_stringslite_TrimPrefix : Slk Tryz.prog E0 n_stringslite_TrimPrefix 13 s_stringslite_TrimPrefix r_stringslite_TrimPrefix := slk_of (vars := v149) (b' := 111) mixed GOK0 Tryz.func149 rfl (by kernel_rfl) (by kernel_rfl) Tryz.ntmps149 (by kernel_rfl)

end Go.Proofs.YtaeleljlpcjcdaaGreatDoor
