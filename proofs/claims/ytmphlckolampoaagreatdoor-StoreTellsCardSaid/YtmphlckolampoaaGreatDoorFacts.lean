/- Facts on the tables of the program, each by the kernel: sizes, zero values, which functions have bodies. Conditions: none. -/
import Derived.Test.YtmphlckolampoaaGreatDoorAb6
import Derived.Test.YtmphlckolampoaaGreatDoorProg
import Derived.KernelRfl
set_option linter.unusedVariables false
set_option linter.unusedSimpArgs false
namespace Go.Proofs.YtmphlckolampoaaGreatDoor
open Go Go.Abs Go.Proofs
theorem tz0 : tsize Tryz.prog 0 = some 1 := by kernel_rfl
theorem tz3 : tsize Tryz.prog 3 = some 1 := by kernel_rfl
theorem zc3 : zeroC Tryz.prog 3 = some [.int .i64 0] := by kernel_rfl
theorem tz4 : tsize Tryz.prog 4 = some 1 := by kernel_rfl
theorem zc4 : zeroC Tryz.prog 4 = some [.bool false] := by kernel_rfl
theorem tz5 : tsize Tryz.prog 5 = some 1 := by kernel_rfl
theorem zc5 : zeroC Tryz.prog 5 = some [.int .u8 0] := by kernel_rfl
theorem tz9 : tsize Tryz.prog 9 = some 1 := by kernel_rfl
theorem zc9 : zeroC Tryz.prog 9 = some [.str []] := by kernel_rfl
theorem tz22 : tsize Tryz.prog 22 = some 1 := by kernel_rfl
theorem zc22 : zeroC Tryz.prog 22 = some [.nilsl] := by kernel_rfl
theorem tz25 : tsize Tryz.prog 25 = some 1 := by kernel_rfl
theorem zc25 : zeroC Tryz.prog 25 = some [.nilptr] := by kernel_rfl
theorem tz27 : tsize Tryz.prog 27 = some 1 := by kernel_rfl
theorem zc27 : zeroC Tryz.prog 27 = some [.nilptr] := by kernel_rfl
theorem tz30 : tsize Tryz.prog 30 = some 1 := by kernel_rfl
theorem zc30 : zeroC Tryz.prog 30 = some [.nilsl] := by kernel_rfl
theorem tz32 : tsize Tryz.prog 32 = some 1 := by kernel_rfl
theorem zc32 : zeroC Tryz.prog 32 = some [.int .i64 0] := by kernel_rfl
theorem tz51 : tsize Tryz.prog 51 = some 3 := by kernel_rfl
theorem zc51 : zeroC Tryz.prog 51 = some [.str [], .str [], .bool false] := by kernel_rfl
theorem tz58 : tsize Tryz.prog 58 = some 1 := by kernel_rfl
theorem zc58 : zeroC Tryz.prog 58 = some [.nilsl] := by kernel_rfl
theorem tz60 : tsize Tryz.prog 60 = some 1 := by kernel_rfl
theorem zc60 : zeroC Tryz.prog 60 = some [.int .u64 0] := by kernel_rfl
theorem tz68 : tsize Tryz.prog 68 = some 1 := by kernel_rfl
theorem zc68 : zeroC Tryz.prog 68 = some [.nilptr] := by kernel_rfl
theorem tz73 : tsize Tryz.prog 73 = some 3 := by kernel_rfl
theorem zc73 : zeroC Tryz.prog 73 = some [.nilsl, .int .i64 0, .int .i64 0] := by kernel_rfl
theorem tz78 : tsize Tryz.prog 78 = some 1 := by kernel_rfl
theorem zc78 : zeroC Tryz.prog 78 = some [.nilmap] := by kernel_rfl
theorem tz83 : tsize Tryz.prog 83 = some 1 := by kernel_rfl
theorem zc83 : zeroC Tryz.prog 83 = some [.nilsl] := by kernel_rfl
theorem tz94 : tsize Tryz.prog 94 = some 1 := by kernel_rfl
theorem zc94 : zeroC Tryz.prog 94 = some [.nilptr] := by kernel_rfl
theorem tz97 : tsize Tryz.prog 97 = some 1 := by kernel_rfl
theorem zc97 : zeroC Tryz.prog 97 = some [.nilfunc] := by kernel_rfl
theorem tz98 : tsize Tryz.prog 98 = some 1 := by kernel_rfl
theorem zc98 : zeroC Tryz.prog 98 = some [.nilfunc] := by kernel_rfl
theorem tz103 : tsize Tryz.prog 103 = some 3 := by kernel_rfl
theorem zc103 : zeroC Tryz.prog 103 = some [.nilsl, .nilsl, .int .u64 0] := by kernel_rfl
theorem tz107 : tsize Tryz.prog 107 = some 1 := by kernel_rfl
theorem zc107 : zeroC Tryz.prog 107 = some [.int .u32 0] := by kernel_rfl
theorem tz110 : tsize Tryz.prog 110 = some 6 := by kernel_rfl
theorem zc110 : zeroC Tryz.prog 110 = some [.str [], .str [], .int .u32 0, .int .i64 0, .nilptr, .nilptr] := by kernel_rfl
theorem tz114 : tsize Tryz.prog 114 = some 1 := by kernel_rfl
theorem zc114 : zeroC Tryz.prog 114 = some [.nilfunc] := by kernel_rfl
theorem tz118 : tsize Tryz.prog 118 = some 1 := by kernel_rfl
theorem zc118 : zeroC Tryz.prog 118 = some [.nilfunc] := by kernel_rfl
theorem tz120 : tsize Tryz.prog 120 = some 1 := by kernel_rfl
theorem zc120 : zeroC Tryz.prog 120 = some [.nilfunc] := by kernel_rfl
theorem tz121 : tsize Tryz.prog 121 = some 1 := by kernel_rfl
theorem zc121 : zeroC Tryz.prog 121 = some [.int .u64 0] := by kernel_rfl
theorem tz126 : tsize Tryz.prog 126 = some 1 := by kernel_rfl
theorem zc126 : zeroC Tryz.prog 126 = some [.nilfunc] := by kernel_rfl
theorem tz127 : tsize Tryz.prog 127 = some 1 := by kernel_rfl
theorem zc127 : zeroC Tryz.prog 127 = some [.nilptr] := by kernel_rfl
theorem tz149 : tsize Tryz.prog 149 = some 1 := by kernel_rfl
theorem zc149 : zeroC Tryz.prog 149 = some [.nilfunc] := by kernel_rfl
theorem tz153 : tsize Tryz.prog 153 = some 1 := by kernel_rfl
theorem zc153 : zeroC Tryz.prog 153 = some [.nilptr] := by kernel_rfl
theorem tz155 : tsize Tryz.prog 155 = some 3 := by kernel_rfl
theorem zc155 : zeroC Tryz.prog 155 = some [.nilsl, .int .i64 0, .bool false] := by kernel_rfl
theorem tz157 : tsize Tryz.prog 157 = some 1 := by kernel_rfl
theorem zc157 : zeroC Tryz.prog 157 = some [.nilptr] := by kernel_rfl
theorem tz184 : tsize Tryz.prog 184 = some 1 := by kernel_rfl
theorem zc184 : zeroC Tryz.prog 184 = some [.int .i64 0] := by kernel_rfl
theorem tz185 : tsize Tryz.prog 185 = some 1 := by kernel_rfl
theorem tz190 : tsize Tryz.prog 190 = some 1 := by kernel_rfl
theorem tz199 : tsize Tryz.prog 199 = some 1 := by kernel_rfl
theorem zc199 : zeroC Tryz.prog 199 = some [.int .u64 0] := by kernel_rfl
theorem tz202 : tsize Tryz.prog 202 = some 1 := by kernel_rfl
theorem zc202 : zeroC Tryz.prog 202 = some [.nilptr] := by kernel_rfl
theorem tz206 : tsize Tryz.prog 206 = some 1 := by kernel_rfl
theorem zc206 : zeroC Tryz.prog 206 = some [.nilptr] := by kernel_rfl
theorem tz207 : tsize Tryz.prog 207 = some 1 := by kernel_rfl
attribute [go_sem] tz0 tz3 tz4 tz5 tz9 tz22 tz25 tz27 tz30 tz32 tz51 tz58 tz60 tz68 tz73 tz78 tz83 tz94 tz97 tz98 tz103 tz107 tz110 tz114 tz118 tz120 tz121 tz126 tz127 tz149 tz153 tz155 tz157 tz184 tz185 tz190 tz199 tz202 tz206 tz207 zc3 zc4 zc5 zc9 zc22 zc25 zc27 zc30 zc32 zc51 zc58 zc60 zc68 zc73 zc78 zc83 zc94 zc97 zc98 zc103 zc107 zc110 zc114 zc118 zc120 zc121 zc126 zc127 zc149 zc153 zc155 zc157 zc184 zc199 zc202 zc206 Tryz.underlying0 Tryz.underlying3 Tryz.underlying4 Tryz.underlying5 Tryz.underlying9 Tryz.underlying22 Tryz.underlying25 Tryz.underlying27 Tryz.underlying30 Tryz.underlying32 Tryz.underlying51 Tryz.underlying58 Tryz.underlying60 Tryz.underlying68 Tryz.underlying73 Tryz.underlying78 Tryz.underlying83 Tryz.underlying94 Tryz.underlying97 Tryz.underlying98 Tryz.underlying103 Tryz.underlying107 Tryz.underlying110 Tryz.underlying114 Tryz.underlying118 Tryz.underlying120 Tryz.underlying121 Tryz.underlying126 Tryz.underlying127 Tryz.underlying149 Tryz.underlying153 Tryz.underlying155 Tryz.underlying157 Tryz.underlying184 Tryz.underlying185 Tryz.underlying190 Tryz.underlying199 Tryz.underlying202 Tryz.underlying206 Tryz.underlying207
theorem bd3 : bodied Tryz.prog 3 = true := by kernel_rfl
theorem bd5 : bodied Tryz.prog 5 = true := by kernel_rfl
theorem bd6 : bodied Tryz.prog 6 = true := by kernel_rfl
theorem bd7 : bodied Tryz.prog 7 = true := by kernel_rfl
theorem bd8 : bodied Tryz.prog 8 = true := by kernel_rfl
theorem bd9 : bodied Tryz.prog 9 = true := by kernel_rfl
theorem bd10 : bodied Tryz.prog 10 = true := by kernel_rfl
theorem bd11 : bodied Tryz.prog 11 = true := by kernel_rfl
theorem bd12 : bodied Tryz.prog 12 = true := by kernel_rfl
theorem bd13 : bodied Tryz.prog 13 = true := by kernel_rfl
theorem bd14 : bodied Tryz.prog 14 = true := by kernel_rfl
theorem bd19 : bodied Tryz.prog 19 = true := by kernel_rfl
theorem bd21 : bodied Tryz.prog 21 = true := by kernel_rfl
theorem bd22 : bodied Tryz.prog 22 = true := by kernel_rfl
theorem bd23 : bodied Tryz.prog 23 = true := by kernel_rfl
theorem bd24 : bodied Tryz.prog 24 = true := by kernel_rfl
theorem bd25 : bodied Tryz.prog 25 = true := by kernel_rfl
theorem bd26 : bodied Tryz.prog 26 = true := by kernel_rfl
theorem bd27 : bodied Tryz.prog 27 = true := by kernel_rfl
theorem bd28 : bodied Tryz.prog 28 = true := by kernel_rfl
theorem bd29 : bodied Tryz.prog 29 = true := by kernel_rfl
theorem bd30 : bodied Tryz.prog 30 = true := by kernel_rfl
theorem bd31 : bodied Tryz.prog 31 = true := by kernel_rfl
theorem bd32 : bodied Tryz.prog 32 = true := by kernel_rfl
theorem bd33 : bodied Tryz.prog 33 = true := by kernel_rfl
theorem bd34 : bodied Tryz.prog 34 = true := by kernel_rfl
theorem bd35 : bodied Tryz.prog 35 = true := by kernel_rfl
theorem bd36 : bodied Tryz.prog 36 = true := by kernel_rfl
theorem bd37 : bodied Tryz.prog 37 = true := by kernel_rfl
theorem bd38 : bodied Tryz.prog 38 = true := by kernel_rfl
theorem bd39 : bodied Tryz.prog 39 = true := by kernel_rfl
theorem bd40 : bodied Tryz.prog 40 = true := by kernel_rfl
theorem bd53 : bodied Tryz.prog 53 = true := by kernel_rfl
theorem bd56 : bodied Tryz.prog 56 = true := by kernel_rfl
theorem bd57 : bodied Tryz.prog 57 = true := by kernel_rfl
theorem bd58 : bodied Tryz.prog 58 = true := by kernel_rfl
theorem bd59 : bodied Tryz.prog 59 = true := by kernel_rfl
theorem bd60 : bodied Tryz.prog 60 = true := by kernel_rfl
theorem bd61 : bodied Tryz.prog 61 = true := by kernel_rfl
theorem bd62 : bodied Tryz.prog 62 = true := by kernel_rfl
theorem bd63 : bodied Tryz.prog 63 = true := by kernel_rfl
theorem bd64 : bodied Tryz.prog 64 = true := by kernel_rfl
theorem bd65 : bodied Tryz.prog 65 = true := by kernel_rfl
theorem bd66 : bodied Tryz.prog 66 = true := by kernel_rfl
theorem bd67 : bodied Tryz.prog 67 = true := by kernel_rfl
theorem bd68 : bodied Tryz.prog 68 = true := by kernel_rfl
theorem bd69 : bodied Tryz.prog 69 = true := by kernel_rfl
theorem bd70 : bodied Tryz.prog 70 = true := by kernel_rfl
theorem bd71 : bodied Tryz.prog 71 = true := by kernel_rfl
theorem bd72 : bodied Tryz.prog 72 = true := by kernel_rfl
theorem bd73 : bodied Tryz.prog 73 = true := by kernel_rfl
theorem bd74 : bodied Tryz.prog 74 = true := by kernel_rfl
theorem bd75 : bodied Tryz.prog 75 = true := by kernel_rfl
theorem bd76 : bodied Tryz.prog 76 = true := by kernel_rfl
theorem bd77 : bodied Tryz.prog 77 = true := by kernel_rfl
theorem bd78 : bodied Tryz.prog 78 = true := by kernel_rfl
theorem bd79 : bodied Tryz.prog 79 = true := by kernel_rfl
theorem bd80 : bodied Tryz.prog 80 = true := by kernel_rfl
theorem bd81 : bodied Tryz.prog 81 = true := by kernel_rfl
theorem bd82 : bodied Tryz.prog 82 = true := by kernel_rfl
theorem bd83 : bodied Tryz.prog 83 = true := by kernel_rfl
theorem bd101 : bodied Tryz.prog 101 = true := by kernel_rfl
theorem bd102 : bodied Tryz.prog 102 = true := by kernel_rfl
theorem bd103 : bodied Tryz.prog 103 = true := by kernel_rfl
theorem bd104 : bodied Tryz.prog 104 = true := by kernel_rfl
theorem bd105 : bodied Tryz.prog 105 = true := by kernel_rfl
theorem bd106 : bodied Tryz.prog 106 = true := by kernel_rfl
theorem bd107 : bodied Tryz.prog 107 = true := by kernel_rfl
theorem bd108 : bodied Tryz.prog 108 = true := by kernel_rfl
theorem bd109 : bodied Tryz.prog 109 = true := by kernel_rfl
theorem bd110 : bodied Tryz.prog 110 = true := by kernel_rfl
theorem bd135 : bodied Tryz.prog 135 = true := by kernel_rfl
theorem bd136 : bodied Tryz.prog 136 = true := by kernel_rfl
theorem bd137 : bodied Tryz.prog 137 = true := by kernel_rfl
theorem bd158 : bodied Tryz.prog 158 = true := by kernel_rfl
theorem bd167 : bodied Tryz.prog 167 = true := by kernel_rfl
end Go.Proofs.YtmphlckolampoaaGreatDoor
