/- Facts on the tables of the program, each by the kernel: sizes, zero values, which functions have bodies. Conditions: none. -/
import Derived.Test.YtfhcnoancepgcaaGreatDoorAb6
import Derived.Test.YtfhcnoancepgcaaGreatDoorProg
import Derived.KernelRfl
set_option linter.unusedVariables false
set_option linter.unusedSimpArgs false
namespace Go.Proofs.YtfhcnoancepgcaaGreatDoor
open Go Go.Abs Go.Proofs
theorem tz0 : tsize Tryz.prog 0 = some 1 := by kernel_rfl
theorem tz3 : tsize Tryz.prog 3 = some 1 := by kernel_rfl
theorem zc3 : zeroC Tryz.prog 3 = some [.int .i64 0] := by kernel_rfl
theorem tz4 : tsize Tryz.prog 4 = some 1 := by kernel_rfl
theorem zc4 : zeroC Tryz.prog 4 = some [.bool false] := by kernel_rfl
theorem tz5 : tsize Tryz.prog 5 = some 1 := by kernel_rfl
theorem zc5 : zeroC Tryz.prog 5 = some [.int .u8 0] := by kernel_rfl
theorem tz9 : tsize Tryz.prog 9 = some 1 := by kernel_rfl
theorem zc9 : zeroC Tryz.prog 9 = some [.str []] := by kernel_rfl
theorem tz22 : tsize Tryz.prog 22 = some 1 := by kernel_rfl
theorem zc22 : zeroC Tryz.prog 22 = some [.nilsl] := by kernel_rfl
theorem tz23 : tsize Tryz.prog 23 = some 1 := by kernel_rfl
theorem zc23 : zeroC Tryz.prog 23 = some [.nilsl] := by kernel_rfl
theorem tz26 : tsize Tryz.prog 26 = some 1 := by kernel_rfl
theorem zc26 : zeroC Tryz.prog 26 = some [.nilsl] := by kernel_rfl
theorem tz28 : tsize Tryz.prog 28 = some 3 := by kernel_rfl
theorem zc28 : zeroC Tryz.prog 28 = some [.int .i64 0, .int .i64 0, .nilsl] := by kernel_rfl
theorem tz29 : tsize Tryz.prog 29 = some 1 := by kernel_rfl
theorem zc29 : zeroC Tryz.prog 29 = some [.int .i64 0] := by kernel_rfl
theorem tz32 : tsize Tryz.prog 32 = some 1 := by kernel_rfl
theorem zc32 : zeroC Tryz.prog 32 = some [.nilptr] := by kernel_rfl
theorem tz36 : tsize Tryz.prog 36 = some 2 := by kernel_rfl
theorem zc36 : zeroC Tryz.prog 36 = some [.int .i64 0, .nilsl] := by kernel_rfl
theorem tz40 : tsize Tryz.prog 40 = some 1 := by kernel_rfl
theorem zc40 : zeroC Tryz.prog 40 = some [.nilfunc] := by kernel_rfl
theorem tz44 : tsize Tryz.prog 44 = some 1 := by kernel_rfl
theorem zc44 : zeroC Tryz.prog 44 = some [.nilsl] := by kernel_rfl
theorem tz46 : tsize Tryz.prog 46 = some 1 := by kernel_rfl
theorem zc46 : zeroC Tryz.prog 46 = some [.nilptr] := by kernel_rfl
theorem tz54 : tsize Tryz.prog 54 = some 1 := by kernel_rfl
theorem zc54 : zeroC Tryz.prog 54 = some [.nilfunc] := by kernel_rfl
theorem tz55 : tsize Tryz.prog 55 = some 1 := by kernel_rfl
theorem zc55 : zeroC Tryz.prog 55 = some [.nilsl] := by kernel_rfl
theorem tz62 : tsize Tryz.prog 62 = some 32 := by kernel_rfl
theorem tz66 : tsize Tryz.prog 66 = some 1 := by kernel_rfl
theorem zc66 : zeroC Tryz.prog 66 = some [.nilmap] := by kernel_rfl
theorem tz68 : tsize Tryz.prog 68 = some 4 := by kernel_rfl
theorem zc68 : zeroC Tryz.prog 68 = some [.int .i64 0, .int .i64 0, .nilsl, .nilmap] := by kernel_rfl
theorem tz70 : tsize Tryz.prog 70 = some 1 := by kernel_rfl
theorem zc70 : zeroC Tryz.prog 70 = some [.nilfunc] := by kernel_rfl
theorem tz73 : tsize Tryz.prog 73 = some 1 := by kernel_rfl
theorem zc73 : zeroC Tryz.prog 73 = some [.nilfunc] := by kernel_rfl
theorem tz77 : tsize Tryz.prog 77 = some 1 := by kernel_rfl
theorem zc77 : zeroC Tryz.prog 77 = some [.nilmap] := by kernel_rfl
theorem tz78 : tsize Tryz.prog 78 = some 1 := by kernel_rfl
theorem zc78 : zeroC Tryz.prog 78 = some [.nilsl] := by kernel_rfl
theorem tz79 : tsize Tryz.prog 79 = some 1 := by kernel_rfl
theorem zc79 : zeroC Tryz.prog 79 = some [.int .u64 0] := by kernel_rfl
theorem tz81 : tsize Tryz.prog 81 = some 8 := by kernel_rfl
theorem zc81 : zeroC Tryz.prog 81 = some [.bool false, .int .i64 0, .nilmap, .nilmap, .nilsl, .int .u64 0, .bool false, .int .i64 0] := by kernel_rfl
theorem tz87 : tsize Tryz.prog 87 = some 1 := by kernel_rfl
theorem zc87 : zeroC Tryz.prog 87 = some [.nilfunc] := by kernel_rfl
theorem tz90 : tsize Tryz.prog 90 = some 1 := by kernel_rfl
theorem zc90 : zeroC Tryz.prog 90 = some [.nilptr] := by kernel_rfl
theorem tz92 : tsize Tryz.prog 92 = some 3 := by kernel_rfl
theorem zc92 : zeroC Tryz.prog 92 = some [.nilsl, .nilsl, .int .u64 0] := by kernel_rfl
theorem tz101 : tsize Tryz.prog 101 = some 1 := by kernel_rfl
theorem zc101 : zeroC Tryz.prog 101 = some [.nilfunc] := by kernel_rfl
theorem tz102 : tsize Tryz.prog 102 = some 1 := by kernel_rfl
theorem zc102 : zeroC Tryz.prog 102 = some [.nilfunc] := by kernel_rfl
theorem tz105 : tsize Tryz.prog 105 = some 1 := by kernel_rfl
theorem zc105 : zeroC Tryz.prog 105 = some [.int .u32 0] := by kernel_rfl
theorem tz106 : tsize Tryz.prog 106 = some 64 := by kernel_rfl
theorem tz108 : tsize Tryz.prog 108 = some 8 := by kernel_rfl
theorem zc108 : zeroC Tryz.prog 108 = some [.int .u32 0, .int .u32 0, .int .u32 0, .int .u32 0, .int .u32 0, .int .u32 0, .int .u32 0, .int .u32 0] := by kernel_rfl
theorem tz111 : tsize Tryz.prog 111 = some 1 := by kernel_rfl
theorem zc111 : zeroC Tryz.prog 111 = some [.int .u64 0] := by kernel_rfl
theorem tz114 : tsize Tryz.prog 114 = some 1 := by kernel_rfl
theorem zc114 : zeroC Tryz.prog 114 = some [.nilfunc] := by kernel_rfl
theorem tz115 : tsize Tryz.prog 115 = some 1 := by kernel_rfl
theorem zc115 : zeroC Tryz.prog 115 = some [.nilsl] := by kernel_rfl
theorem tz122 : tsize Tryz.prog 122 = some 1 := by kernel_rfl
theorem zc122 : zeroC Tryz.prog 122 = some [.nilsl] := by kernel_rfl
theorem tz126 : tsize Tryz.prog 126 = some 1 := by kernel_rfl
theorem tz133 : tsize Tryz.prog 133 = some 1 := by kernel_rfl
theorem zc133 : zeroC Tryz.prog 133 = some [.nilptr] := by kernel_rfl
theorem tz134 : tsize Tryz.prog 134 = some 1 := by kernel_rfl
theorem zc134 : zeroC Tryz.prog 134 = some [.str []] := by kernel_rfl
theorem tz143 : tsize Tryz.prog 143 = some 1 := by kernel_rfl
theorem zc143 : zeroC Tryz.prog 143 = some [.nilfunc] := by kernel_rfl
theorem tz144 : tsize Tryz.prog 144 = some 1 := by kernel_rfl
theorem zc144 : zeroC Tryz.prog 144 = some [.nilsl] := by kernel_rfl
theorem tz146 : tsize Tryz.prog 146 = some 1 := by kernel_rfl
theorem zc146 : zeroC Tryz.prog 146 = some [.nilfunc] := by kernel_rfl
theorem tz152 : tsize Tryz.prog 152 = some 1 := by kernel_rfl
theorem zc152 : zeroC Tryz.prog 152 = some [.int .i64 0] := by kernel_rfl
theorem tz153 : tsize Tryz.prog 153 = some 1 := by kernel_rfl
theorem tz157 : tsize Tryz.prog 157 = some 1 := by kernel_rfl
theorem tz165 : tsize Tryz.prog 165 = some 1 := by kernel_rfl
theorem zc165 : zeroC Tryz.prog 165 = some [.int .u64 0] := by kernel_rfl
theorem tz168 : tsize Tryz.prog 168 = some 1 := by kernel_rfl
theorem zc168 : zeroC Tryz.prog 168 = some [.nilptr] := by kernel_rfl
theorem tz173 : tsize Tryz.prog 173 = some 1 := by kernel_rfl
theorem zc173 : zeroC Tryz.prog 173 = some [.nilptr] := by kernel_rfl
attribute [go_sem] tz0 tz3 tz4 tz5 tz9 tz22 tz23 tz26 tz28 tz29 tz32 tz36 tz40 tz44 tz46 tz54 tz55 tz62 tz66 tz68 tz70 tz73 tz77 tz78 tz79 tz81 tz87 tz90 tz92 tz101 tz102 tz105 tz106 tz108 tz111 tz114 tz115 tz122 tz126 tz133 tz134 tz143 tz144 tz146 tz152 tz153 tz157 tz165 tz168 tz173 zc3 zc4 zc5 zc9 zc22 zc23 zc26 zc28 zc29 zc32 zc36 zc40 zc44 zc46 zc54 zc55 zc66 zc68 zc70 zc73 zc77 zc78 zc79 zc81 zc87 zc90 zc92 zc101 zc102 zc105 zc108 zc111 zc114 zc115 zc122 zc133 zc134 zc143 zc144 zc146 zc152 zc165 zc168 zc173 Tryz.underlying0 Tryz.underlying3 Tryz.underlying4 Tryz.underlying5 Tryz.underlying9 Tryz.underlying22 Tryz.underlying23 Tryz.underlying26 Tryz.underlying28 Tryz.underlying29 Tryz.underlying32 Tryz.underlying36 Tryz.underlying40 Tryz.underlying44 Tryz.underlying46 Tryz.underlying54 Tryz.underlying55 Tryz.underlying62 Tryz.underlying66 Tryz.underlying68 Tryz.underlying70 Tryz.underlying73 Tryz.underlying77 Tryz.underlying78 Tryz.underlying79 Tryz.underlying81 Tryz.underlying87 Tryz.underlying90 Tryz.underlying92 Tryz.underlying101 Tryz.underlying102 Tryz.underlying105 Tryz.underlying106 Tryz.underlying108 Tryz.underlying111 Tryz.underlying114 Tryz.underlying115 Tryz.underlying122 Tryz.underlying126 Tryz.underlying133 Tryz.underlying134 Tryz.underlying143 Tryz.underlying144 Tryz.underlying146 Tryz.underlying152 Tryz.underlying153 Tryz.underlying157 Tryz.underlying165 Tryz.underlying168 Tryz.underlying173
theorem bd3 : bodied Tryz.prog 3 = true := by kernel_rfl
theorem bd5 : bodied Tryz.prog 5 = true := by kernel_rfl
theorem bd6 : bodied Tryz.prog 6 = true := by kernel_rfl
theorem bd7 : bodied Tryz.prog 7 = true := by kernel_rfl
theorem bd8 : bodied Tryz.prog 8 = true := by kernel_rfl
theorem bd9 : bodied Tryz.prog 9 = true := by kernel_rfl
theorem bd10 : bodied Tryz.prog 10 = true := by kernel_rfl
theorem bd11 : bodied Tryz.prog 11 = true := by kernel_rfl
theorem bd12 : bodied Tryz.prog 12 = true := by kernel_rfl
theorem bd13 : bodied Tryz.prog 13 = true := by kernel_rfl
theorem bd14 : bodied Tryz.prog 14 = true := by kernel_rfl
theorem bd15 : bodied Tryz.prog 15 = true := by kernel_rfl
theorem bd16 : bodied Tryz.prog 16 = true := by kernel_rfl
theorem bd17 : bodied Tryz.prog 17 = true := by kernel_rfl
theorem bd19 : bodied Tryz.prog 19 = true := by kernel_rfl
theorem bd20 : bodied Tryz.prog 20 = true := by kernel_rfl
theorem bd23 : bodied Tryz.prog 23 = true := by kernel_rfl
theorem bd24 : bodied Tryz.prog 24 = true := by kernel_rfl
theorem bd25 : bodied Tryz.prog 25 = true := by kernel_rfl
theorem bd26 : bodied Tryz.prog 26 = true := by kernel_rfl
theorem bd27 : bodied Tryz.prog 27 = true := by kernel_rfl
theorem bd28 : bodied Tryz.prog 28 = true := by kernel_rfl
theorem bd29 : bodied Tryz.prog 29 = true := by kernel_rfl
theorem bd30 : bodied Tryz.prog 30 = true := by kernel_rfl
theorem bd31 : bodied Tryz.prog 31 = true := by kernel_rfl
theorem bd32 : bodied Tryz.prog 32 = true := by kernel_rfl
theorem bd33 : bodied Tryz.prog 33 = true := by kernel_rfl
theorem bd34 : bodied Tryz.prog 34 = true := by kernel_rfl
theorem bd35 : bodied Tryz.prog 35 = true := by kernel_rfl
theorem bd36 : bodied Tryz.prog 36 = true := by kernel_rfl
theorem bd37 : bodied Tryz.prog 37 = true := by kernel_rfl
theorem bd38 : bodied Tryz.prog 38 = true := by kernel_rfl
theorem bd39 : bodied Tryz.prog 39 = true := by kernel_rfl
theorem bd40 : bodied Tryz.prog 40 = true := by kernel_rfl
theorem bd41 : bodied Tryz.prog 41 = true := by kernel_rfl
theorem bd42 : bodied Tryz.prog 42 = true := by kernel_rfl
theorem bd43 : bodied Tryz.prog 43 = true := by kernel_rfl
theorem bd44 : bodied Tryz.prog 44 = true := by kernel_rfl
theorem bd47 : bodied Tryz.prog 47 = true := by kernel_rfl
theorem bd48 : bodied Tryz.prog 48 = true := by kernel_rfl
theorem bd49 : bodied Tryz.prog 49 = true := by kernel_rfl
theorem bd50 : bodied Tryz.prog 50 = true := by kernel_rfl
theorem bd51 : bodied Tryz.prog 51 = true := by kernel_rfl
theorem bd52 : bodied Tryz.prog 52 = true := by kernel_rfl
theorem bd53 : bodied Tryz.prog 53 = true := by kernel_rfl
theorem bd54 : bodied Tryz.prog 54 = true := by kernel_rfl
theorem bd56 : bodied Tryz.prog 56 = true := by kernel_rfl
theorem bd57 : bodied Tryz.prog 57 = true := by kernel_rfl
theorem bd58 : bodied Tryz.prog 58 = true := by kernel_rfl
theorem bd61 : bodied Tryz.prog 61 = true := by kernel_rfl
theorem bd62 : bodied Tryz.prog 62 = true := by kernel_rfl
theorem bd63 : bodied Tryz.prog 63 = true := by kernel_rfl
theorem bd64 : bodied Tryz.prog 64 = true := by kernel_rfl
theorem bd65 : bodied Tryz.prog 65 = true := by kernel_rfl
theorem bd66 : bodied Tryz.prog 66 = true := by kernel_rfl
theorem bd67 : bodied Tryz.prog 67 = true := by kernel_rfl
theorem bd68 : bodied Tryz.prog 68 = true := by kernel_rfl
theorem bd69 : bodied Tryz.prog 69 = true := by kernel_rfl
theorem bd70 : bodied Tryz.prog 70 = true := by kernel_rfl
theorem bd71 : bodied Tryz.prog 71 = true := by kernel_rfl
theorem bd72 : bodied Tryz.prog 72 = true := by kernel_rfl
theorem bd73 : bodied Tryz.prog 73 = true := by kernel_rfl
theorem bd76 : bodied Tryz.prog 76 = true := by kernel_rfl
theorem bd77 : bodied Tryz.prog 77 = true := by kernel_rfl
theorem bd78 : bodied Tryz.prog 78 = true := by kernel_rfl
theorem bd79 : bodied Tryz.prog 79 = true := by kernel_rfl
theorem bd84 : bodied Tryz.prog 84 = true := by kernel_rfl
theorem bd85 : bodied Tryz.prog 85 = true := by kernel_rfl
theorem bd87 : bodied Tryz.prog 87 = true := by kernel_rfl
theorem bd88 : bodied Tryz.prog 88 = true := by kernel_rfl
theorem bd91 : bodied Tryz.prog 91 = true := by kernel_rfl
theorem bd92 : bodied Tryz.prog 92 = true := by kernel_rfl
theorem bd93 : bodied Tryz.prog 93 = true := by kernel_rfl
theorem bd94 : bodied Tryz.prog 94 = true := by kernel_rfl
theorem bd95 : bodied Tryz.prog 95 = true := by kernel_rfl
theorem bd97 : bodied Tryz.prog 97 = true := by kernel_rfl
theorem bd98 : bodied Tryz.prog 98 = true := by kernel_rfl
theorem bd103 : bodied Tryz.prog 103 = true := by kernel_rfl
theorem bd106 : bodied Tryz.prog 106 = true := by kernel_rfl
theorem bd108 : bodied Tryz.prog 108 = true := by kernel_rfl
theorem bd109 : bodied Tryz.prog 109 = true := by kernel_rfl
theorem bd110 : bodied Tryz.prog 110 = true := by kernel_rfl
theorem bd111 : bodied Tryz.prog 111 = true := by kernel_rfl
theorem bd112 : bodied Tryz.prog 112 = true := by kernel_rfl
theorem bd125 : bodied Tryz.prog 125 = true := by kernel_rfl
theorem bd126 : bodied Tryz.prog 126 = true := by kernel_rfl
theorem bd127 : bodied Tryz.prog 127 = true := by kernel_rfl
theorem bd128 : bodied Tryz.prog 128 = true := by kernel_rfl
theorem bd136 : bodied Tryz.prog 136 = true := by kernel_rfl
theorem bd138 : bodied Tryz.prog 138 = true := by kernel_rfl
theorem bd139 : bodied Tryz.prog 139 = true := by kernel_rfl
theorem bd144 : bodied Tryz.prog 144 = true := by kernel_rfl
theorem bd146 : bodied Tryz.prog 146 = true := by kernel_rfl
end Go.Proofs.YtfhcnoancepgcaaGreatDoor
