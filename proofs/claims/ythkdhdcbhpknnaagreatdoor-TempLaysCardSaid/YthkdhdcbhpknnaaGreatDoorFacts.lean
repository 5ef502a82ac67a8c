/- Facts on the tables of the program, each by the kernel: sizes, zero values, which functions have bodies. Conditions: none. -/
import Derived.Test.YthkdhdcbhpknnaaGreatDoorAb6
import Derived.Test.YthkdhdcbhpknnaaGreatDoorProg
import Derived.KernelRfl
set_option linter.unusedVariables false
set_option linter.unusedSimpArgs false
namespace Go.Proofs.YthkdhdcbhpknnaaGreatDoor
open Go Go.Abs Go.Proofs
theorem tz0 : tsize Tryz.prog 0 = some 1 := by kernel_rfl
theorem tz3 : tsize Tryz.prog 3 = some 1 := by kernel_rfl
theorem zc3 : zeroC Tryz.prog 3 = some [.int .i64 0] := by kernel_rfl
theorem tz4 : tsize Tryz.prog 4 = some 1 := by kernel_rfl
theorem zc4 : zeroC Tryz.prog 4 = some [.bool false] := by kernel_rfl
theorem tz5 : tsize Tryz.prog 5 = some 1 := by kernel_rfl
theorem zc5 : zeroC Tryz.prog 5 = some [.int .u8 0] := by kernel_rfl
theorem tz9 : tsize Tryz.prog 9 = some 1 := by kernel_rfl
theorem zc9 : zeroC Tryz.prog 9 = some [.str []] := by kernel_rfl
theorem tz22 : tsize Tryz.prog 22 = some 1 := by kernel_rfl
theorem zc22 : zeroC Tryz.prog 22 = some [.nilsl] := by kernel_rfl
theorem tz29 : tsize Tryz.prog 29 = some 1 := by kernel_rfl
theorem zc29 : zeroC Tryz.prog 29 = some [.int .i64 0] := by kernel_rfl
theorem tz44 : tsize Tryz.prog 44 = some 1 := by kernel_rfl
theorem zc44 : zeroC Tryz.prog 44 = some [.nilsl] := by kernel_rfl
theorem tz46 : tsize Tryz.prog 46 = some 1 := by kernel_rfl
theorem zc46 : zeroC Tryz.prog 46 = some [.nilptr] := by kernel_rfl
theorem tz54 : tsize Tryz.prog 54 = some 1 := by kernel_rfl
theorem zc54 : zeroC Tryz.prog 54 = some [.nilfunc] := by kernel_rfl
theorem tz55 : tsize Tryz.prog 55 = some 1 := by kernel_rfl
theorem zc55 : zeroC Tryz.prog 55 = some [.nilsl] := by kernel_rfl
theorem tz59 : tsize Tryz.prog 59 = some 1 := by kernel_rfl
theorem zc59 : zeroC Tryz.prog 59 = some [.nilsl] := by kernel_rfl
theorem tz60 : tsize Tryz.prog 60 = some 1 := by kernel_rfl
theorem zc60 : zeroC Tryz.prog 60 = some [.nilptr] := by kernel_rfl
theorem tz64 : tsize Tryz.prog 64 = some 4 := by kernel_rfl
theorem zc64 : zeroC Tryz.prog 64 = some [.int .i64 0, .str [], .nilsl, .int .i64 0] := by kernel_rfl
theorem tz65 : tsize Tryz.prog 65 = some 1 := by kernel_rfl
theorem zc65 : zeroC Tryz.prog 65 = some [.nilfunc] := by kernel_rfl
theorem tz76 : tsize Tryz.prog 76 = some 1 := by kernel_rfl
theorem zc76 : zeroC Tryz.prog 76 = some [.nilsl] := by kernel_rfl
theorem tz96 : tsize Tryz.prog 96 = some 1 := by kernel_rfl
theorem zc96 : zeroC Tryz.prog 96 = some [.nilmap] := by kernel_rfl
theorem tz97 : tsize Tryz.prog 97 = some 1 := by kernel_rfl
theorem zc97 : zeroC Tryz.prog 97 = some [.nilsl] := by kernel_rfl
theorem tz98 : tsize Tryz.prog 98 = some 1 := by kernel_rfl
theorem zc98 : zeroC Tryz.prog 98 = some [.int .u64 0] := by kernel_rfl
theorem tz100 : tsize Tryz.prog 100 = some 8 := by kernel_rfl
theorem zc100 : zeroC Tryz.prog 100 = some [.bool false, .int .i64 0, .nilmap, .nilmap, .nilsl, .int .u64 0, .bool false, .int .i64 0] := by kernel_rfl
theorem tz105 : tsize Tryz.prog 105 = some 1 := by kernel_rfl
theorem zc105 : zeroC Tryz.prog 105 = some [.nilfunc] := by kernel_rfl
theorem tz108 : tsize Tryz.prog 108 = some 1 := by kernel_rfl
theorem zc108 : zeroC Tryz.prog 108 = some [.nilptr] := by kernel_rfl
theorem tz110 : tsize Tryz.prog 110 = some 3 := by kernel_rfl
theorem zc110 : zeroC Tryz.prog 110 = some [.nilsl, .nilsl, .int .u64 0] := by kernel_rfl
theorem tz117 : tsize Tryz.prog 117 = some 1 := by kernel_rfl
theorem zc117 : zeroC Tryz.prog 117 = some [.nilfunc] := by kernel_rfl
theorem tz118 : tsize Tryz.prog 118 = some 1 := by kernel_rfl
theorem zc118 : zeroC Tryz.prog 118 = some [.nilfunc] := by kernel_rfl
theorem tz121 : tsize Tryz.prog 121 = some 1 := by kernel_rfl
theorem zc121 : zeroC Tryz.prog 121 = some [.nilsl] := by kernel_rfl
theorem tz122 : tsize Tryz.prog 122 = some 1 := by kernel_rfl
theorem zc122 : zeroC Tryz.prog 122 = some [.nilsl] := by kernel_rfl
theorem tz124 : tsize Tryz.prog 124 = some 7 := by kernel_rfl
theorem zc124 : zeroC Tryz.prog 124 = some [.int .i64 0, .nilsl, .nilsl, .nilsl, .int .u64 0, .bool false, .int .i64 0] := by kernel_rfl
theorem tz126 : tsize Tryz.prog 126 = some 1 := by kernel_rfl
theorem zc126 : zeroC Tryz.prog 126 = some [.nilfunc] := by kernel_rfl
theorem tz127 : tsize Tryz.prog 127 = some 1 := by kernel_rfl
theorem zc127 : zeroC Tryz.prog 127 = some [.nilptr] := by kernel_rfl
theorem tz130 : tsize Tryz.prog 130 = some 3 := by kernel_rfl
theorem zc130 : zeroC Tryz.prog 130 = some [.nilsl, .nilsl, .int .u64 0] := by kernel_rfl
theorem tz133 : tsize Tryz.prog 133 = some 4 := by kernel_rfl
theorem zc133 : zeroC Tryz.prog 133 = some [.int .i64 0, .str [], .str [], .nilptr] := by kernel_rfl
theorem tz136 : tsize Tryz.prog 136 = some 2 := by kernel_rfl
theorem zc136 : zeroC Tryz.prog 136 = some [.str [], .nilptr] := by kernel_rfl
theorem tz139 : tsize Tryz.prog 139 = some 2 := by kernel_rfl
theorem zc139 : zeroC Tryz.prog 139 = some [.str [], .nilsl] := by kernel_rfl
theorem tz140 : tsize Tryz.prog 140 = some 1 := by kernel_rfl
theorem zc140 : zeroC Tryz.prog 140 = some [.int .u32 0] := by kernel_rfl
theorem tz146 : tsize Tryz.prog 146 = some 1 := by kernel_rfl
theorem zc146 : zeroC Tryz.prog 146 = some [.int .u64 0] := by kernel_rfl
theorem tz148 : tsize Tryz.prog 148 = some 1 := by kernel_rfl
theorem zc148 : zeroC Tryz.prog 148 = some [.nilsl] := by kernel_rfl
theorem tz155 : tsize Tryz.prog 155 = some 1 := by kernel_rfl
theorem zc155 : zeroC Tryz.prog 155 = some [.nilsl] := by kernel_rfl
theorem tz159 : tsize Tryz.prog 159 = some 1 := by kernel_rfl
theorem tz167 : tsize Tryz.prog 167 = some 1 := by kernel_rfl
theorem zc167 : zeroC Tryz.prog 167 = some [.str []] := by kernel_rfl
theorem tz175 : tsize Tryz.prog 175 = some 1 := by kernel_rfl
theorem zc175 : zeroC Tryz.prog 175 = some [.nilfunc] := by kernel_rfl
theorem tz176 : tsize Tryz.prog 176 = some 1 := by kernel_rfl
theorem zc176 : zeroC Tryz.prog 176 = some [.nilsl] := by kernel_rfl
theorem tz184 : tsize Tryz.prog 184 = some 1 := by kernel_rfl
theorem zc184 : zeroC Tryz.prog 184 = some [.int .i64 0] := by kernel_rfl
theorem tz185 : tsize Tryz.prog 185 = some 1 := by kernel_rfl
theorem tz189 : tsize Tryz.prog 189 = some 1 := by kernel_rfl
theorem tz197 : tsize Tryz.prog 197 = some 1 := by kernel_rfl
theorem zc197 : zeroC Tryz.prog 197 = some [.int .u64 0] := by kernel_rfl
theorem tz200 : tsize Tryz.prog 200 = some 1 := by kernel_rfl
theorem zc200 : zeroC Tryz.prog 200 = some [.nilptr] := by kernel_rfl
theorem tz205 : tsize Tryz.prog 205 = some 1 := by kernel_rfl
theorem zc205 : zeroC Tryz.prog 205 = some [.nilptr] := by kernel_rfl
attribute [go_sem] tz0 tz3 tz4 tz5 tz9 tz22 tz29 tz44 tz46 tz54 tz55 tz59 tz60 tz64 tz65 tz76 tz96 tz97 tz98 tz100 tz105 tz108 tz110 tz117 tz118 tz121 tz122 tz124 tz126 tz127 tz130 tz133 tz136 tz139 tz140 tz146 tz148 tz155 tz159 tz167 tz175 tz176 tz184 tz185 tz189 tz197 tz200 tz205 zc3 zc4 zc5 zc9 zc22 zc29 zc44 zc46 zc54 zc55 zc59 zc60 zc64 zc65 zc76 zc96 zc97 zc98 zc100 zc105 zc108 zc110 zc117 zc118 zc121 zc122 zc124 zc126 zc127 zc130 zc133 zc136 zc139 zc140 zc146 zc148 zc155 zc167 zc175 zc176 zc184 zc197 zc200 zc205 Tryz.underlying0 Tryz.underlying3 Tryz.underlying4 Tryz.underlying5 Tryz.underlying9 Tryz.underlying22 Tryz.underlying29 Tryz.underlying44 Tryz.underlying46 Tryz.underlying54 Tryz.underlying55 Tryz.underlying59 Tryz.underlying60 Tryz.underlying64 Tryz.underlying65 Tryz.underlying76 Tryz.underlying96 Tryz.underlying97 Tryz.underlying98 Tryz.underlying100 Tryz.underlying105 Tryz.underlying108 Tryz.underlying110 Tryz.underlying117 Tryz.underlying118 Tryz.underlying121 Tryz.underlying122 Tryz.underlying124 Tryz.underlying126 Tryz.underlying127 Tryz.underlying130 Tryz.underlying133 Tryz.underlying136 Tryz.underlying139 Tryz.underlying140 Tryz.underlying146 Tryz.underlying148 Tryz.underlying155 Tryz.underlying159 Tryz.underlying167 Tryz.underlying175 Tryz.underlying176 Tryz.underlying184 Tryz.underlying185 Tryz.underlying189 Tryz.underlying197 Tryz.underlying200 Tryz.underlying205
theorem bd4 : bodied Tryz.prog 4 = true := by kernel_rfl
theorem bd6 : bodied Tryz.prog 6 = true := by kernel_rfl
theorem bd15 : bodied Tryz.prog 15 = true := by kernel_rfl
theorem bd16 : bodied Tryz.prog 16 = true := by kernel_rfl
theorem bd18 : bodied Tryz.prog 18 = true := by kernel_rfl
theorem bd19 : bodied Tryz.prog 19 = true := by kernel_rfl
theorem bd20 : bodied Tryz.prog 20 = true := by kernel_rfl
theorem bd21 : bodied Tryz.prog 21 = true := by kernel_rfl
theorem bd22 : bodied Tryz.prog 22 = true := by kernel_rfl
theorem bd23 : bodied Tryz.prog 23 = true := by kernel_rfl
theorem bd24 : bodied Tryz.prog 24 = true := by kernel_rfl
theorem bd25 : bodied Tryz.prog 25 = true := by kernel_rfl
theorem bd26 : bodied Tryz.prog 26 = true := by kernel_rfl
theorem bd27 : bodied Tryz.prog 27 = true := by kernel_rfl
theorem bd28 : bodied Tryz.prog 28 = true := by kernel_rfl
theorem bd29 : bodied Tryz.prog 29 = true := by kernel_rfl
theorem bd30 : bodied Tryz.prog 30 = true := by kernel_rfl
theorem bd31 : bodied Tryz.prog 31 = true := by kernel_rfl
theorem bd32 : bodied Tryz.prog 32 = true := by kernel_rfl
theorem bd33 : bodied Tryz.prog 33 = true := by kernel_rfl
theorem bd34 : bodied Tryz.prog 34 = true := by kernel_rfl
theorem bd35 : bodied Tryz.prog 35 = true := by kernel_rfl
theorem bd36 : bodied Tryz.prog 36 = true := by kernel_rfl
theorem bd37 : bodied Tryz.prog 37 = true := by kernel_rfl
theorem bd38 : bodied Tryz.prog 38 = true := by kernel_rfl
theorem bd39 : bodied Tryz.prog 39 = true := by kernel_rfl
theorem bd48 : bodied Tryz.prog 48 = true := by kernel_rfl
theorem bd52 : bodied Tryz.prog 52 = true := by kernel_rfl
theorem bd53 : bodied Tryz.prog 53 = true := by kernel_rfl
theorem bd54 : bodied Tryz.prog 54 = true := by kernel_rfl
theorem bd55 : bodied Tryz.prog 55 = true := by kernel_rfl
theorem bd56 : bodied Tryz.prog 56 = true := by kernel_rfl
theorem bd57 : bodied Tryz.prog 57 = true := by kernel_rfl
theorem bd58 : bodied Tryz.prog 58 = true := by kernel_rfl
theorem bd59 : bodied Tryz.prog 59 = true := by kernel_rfl
theorem bd60 : bodied Tryz.prog 60 = true := by kernel_rfl
theorem bd61 : bodied Tryz.prog 61 = true := by kernel_rfl
theorem bd62 : bodied Tryz.prog 62 = true := by kernel_rfl
theorem bd63 : bodied Tryz.prog 63 = true := by kernel_rfl
theorem bd64 : bodied Tryz.prog 64 = true := by kernel_rfl
theorem bd65 : bodied Tryz.prog 65 = true := by kernel_rfl
theorem bd66 : bodied Tryz.prog 66 = true := by kernel_rfl
theorem bd67 : bodied Tryz.prog 67 = true := by kernel_rfl
theorem bd68 : bodied Tryz.prog 68 = true := by kernel_rfl
theorem bd69 : bodied Tryz.prog 69 = true := by kernel_rfl
theorem bd70 : bodied Tryz.prog 70 = true := by kernel_rfl
theorem bd72 : bodied Tryz.prog 72 = true := by kernel_rfl
theorem bd73 : bodied Tryz.prog 73 = true := by kernel_rfl
theorem bd74 : bodied Tryz.prog 74 = true := by kernel_rfl
theorem bd75 : bodied Tryz.prog 75 = true := by kernel_rfl
theorem bd76 : bodied Tryz.prog 76 = true := by kernel_rfl
theorem bd77 : bodied Tryz.prog 77 = true := by kernel_rfl
theorem bd78 : bodied Tryz.prog 78 = true := by kernel_rfl
theorem bd79 : bodied Tryz.prog 79 = true := by kernel_rfl
theorem bd80 : bodied Tryz.prog 80 = true := by kernel_rfl
theorem bd81 : bodied Tryz.prog 81 = true := by kernel_rfl
theorem bd82 : bodied Tryz.prog 82 = true := by kernel_rfl
theorem bd83 : bodied Tryz.prog 83 = true := by kernel_rfl
theorem bd84 : bodied Tryz.prog 84 = true := by kernel_rfl
theorem bd85 : bodied Tryz.prog 85 = true := by kernel_rfl
theorem bd86 : bodied Tryz.prog 86 = true := by kernel_rfl
theorem bd87 : bodied Tryz.prog 87 = true := by kernel_rfl
theorem bd88 : bodied Tryz.prog 88 = true := by kernel_rfl
theorem bd89 : bodied Tryz.prog 89 = true := by kernel_rfl
theorem bd90 : bodied Tryz.prog 90 = true := by kernel_rfl
theorem bd100 : bodied Tryz.prog 100 = true := by kernel_rfl
theorem bd101 : bodied Tryz.prog 101 = true := by kernel_rfl
theorem bd102 : bodied Tryz.prog 102 = true := by kernel_rfl
theorem bd103 : bodied Tryz.prog 103 = true := by kernel_rfl
theorem bd104 : bodied Tryz.prog 104 = true := by kernel_rfl
theorem bd105 : bodied Tryz.prog 105 = true := by kernel_rfl
theorem bd106 : bodied Tryz.prog 106 = true := by kernel_rfl
theorem bd111 : bodied Tryz.prog 111 = true := by kernel_rfl
theorem bd112 : bodied Tryz.prog 112 = true := by kernel_rfl
theorem bd113 : bodied Tryz.prog 113 = true := by kernel_rfl
theorem bd114 : bodied Tryz.prog 114 = true := by kernel_rfl
theorem bd124 : bodied Tryz.prog 124 = true := by kernel_rfl
theorem bd126 : bodied Tryz.prog 126 = true := by kernel_rfl
theorem bd131 : bodied Tryz.prog 131 = true := by kernel_rfl
theorem bd134 : bodied Tryz.prog 134 = true := by kernel_rfl
theorem bd139 : bodied Tryz.prog 139 = true := by kernel_rfl
theorem bd140 : bodied Tryz.prog 140 = true := by kernel_rfl
theorem bd153 : bodied Tryz.prog 153 = true := by kernel_rfl
theorem bd154 : bodied Tryz.prog 154 = true := by kernel_rfl
theorem bd156 : bodied Tryz.prog 156 = true := by kernel_rfl
theorem bd164 : bodied Tryz.prog 164 = true := by kernel_rfl
theorem bd166 : bodied Tryz.prog 166 = true := by kernel_rfl
theorem bd167 : bodied Tryz.prog 167 = true := by kernel_rfl
theorem bd172 : bodied Tryz.prog 172 = true := by kernel_rfl
theorem bd174 : bodied Tryz.prog 174 = true := by kernel_rfl
end Go.Proofs.YthkdhdcbhpknnaaGreatDoor
