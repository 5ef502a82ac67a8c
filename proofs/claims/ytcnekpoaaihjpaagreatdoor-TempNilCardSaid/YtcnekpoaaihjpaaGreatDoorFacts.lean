/- Facts on the tables of the program, each by the kernel: sizes, zero values, which functions have bodies. Conditions: none. -/
import Derived.Test.YtcnekpoaaihjpaaGreatDoorAbs36
import Derived.Test.YtcnekpoaaihjpaaGreatDoorProg
import Derived.KernelRfl
namespace Go.Proofs.YtcnekpoaaihjpaaGreatDoor
open Go Go.Abs Go.Proofs
theorem tz3 : tsize Tryz.prog 3 = some 1 := by kernel_rfl
theorem zc3 : zeroC Tryz.prog 3 = some [.int .i64 0] := by kernel_rfl
theorem tz4 : tsize Tryz.prog 4 = some 1 := by kernel_rfl
theorem zc4 : zeroC Tryz.prog 4 = some [.bool false] := by kernel_rfl
theorem tz5 : tsize Tryz.prog 5 = some 1 := by kernel_rfl
theorem zc5 : zeroC Tryz.prog 5 = some [.int .u8 0] := by kernel_rfl
theorem tz9 : tsize Tryz.prog 9 = some 1 := by kernel_rfl
theorem zc9 : zeroC Tryz.prog 9 = some [.str []] := by kernel_rfl
theorem tz22 : tsize Tryz.prog 22 = some 1 := by kernel_rfl
theorem zc22 : zeroC Tryz.prog 22 = some [.nilsl] := by kernel_rfl
theorem tz24 : tsize Tryz.prog 24 = some 1 := by kernel_rfl
theorem zc24 : zeroC Tryz.prog 24 = some [.nilptr] := by kernel_rfl
theorem tz25 : tsize Tryz.prog 25 = some 1 := by kernel_rfl
theorem zc25 : zeroC Tryz.prog 25 = some [.nilptr] := by kernel_rfl
theorem tz26 : tsize Tryz.prog 26 = some 1 := by kernel_rfl
theorem zc26 : zeroC Tryz.prog 26 = some [.int .i64 0] := by kernel_rfl
theorem tz34 : tsize Tryz.prog 34 = some 1 := by kernel_rfl
theorem zc34 : zeroC Tryz.prog 34 = some [.nilfunc] := by kernel_rfl
theorem tz35 : tsize Tryz.prog 35 = some 1 := by kernel_rfl
theorem zc35 : zeroC Tryz.prog 35 = some [.nilsl] := by kernel_rfl
theorem tz37 : tsize Tryz.prog 37 = some 1 := by kernel_rfl
theorem zc37 : zeroC Tryz.prog 37 = some [.nilsl] := by kernel_rfl
theorem tz44 : tsize Tryz.prog 44 = some 1 := by kernel_rfl
theorem zc44 : zeroC Tryz.prog 44 = some [.nilsl] := by kernel_rfl
theorem tz46 : tsize Tryz.prog 46 = some 3 := by kernel_rfl
theorem zc46 : zeroC Tryz.prog 46 = some [.int .i64 0, .int .i64 0, .nilsl] := by kernel_rfl
theorem tz53 : tsize Tryz.prog 53 = some 1 := by kernel_rfl
theorem zc53 : zeroC Tryz.prog 53 = some [.nilmap] := by kernel_rfl
theorem tz55 : tsize Tryz.prog 55 = some 4 := by kernel_rfl
theorem zc55 : zeroC Tryz.prog 55 = some [.int .i64 0, .int .i64 0, .nilsl, .nilmap] := by kernel_rfl
theorem tz57 : tsize Tryz.prog 57 = some 1 := by kernel_rfl
theorem zc57 : zeroC Tryz.prog 57 = some [.int .u64 0] := by kernel_rfl
theorem tz62 : tsize Tryz.prog 62 = some 1 := by kernel_rfl
theorem zc62 : zeroC Tryz.prog 62 = some [.nilfunc] := by kernel_rfl
theorem tz74 : tsize Tryz.prog 74 = some 1 := by kernel_rfl
theorem zc74 : zeroC Tryz.prog 74 = some [.nilmap] := by kernel_rfl
theorem tz75 : tsize Tryz.prog 75 = some 1 := by kernel_rfl
theorem zc75 : zeroC Tryz.prog 75 = some [.nilsl] := by kernel_rfl
theorem tz77 : tsize Tryz.prog 77 = some 8 := by kernel_rfl
theorem zc77 : zeroC Tryz.prog 77 = some [.bool false, .int .i64 0, .nilmap, .nilmap, .nilsl, .int .u64 0, .bool false, .int .i64 0] := by kernel_rfl
theorem tz81 : tsize Tryz.prog 81 = some 32 := by kernel_rfl
theorem tz84 : tsize Tryz.prog 84 = some 1 := by kernel_rfl
theorem zc84 : zeroC Tryz.prog 84 = some [.nilptr] := by kernel_rfl
theorem tz86 : tsize Tryz.prog 86 = some 3 := by kernel_rfl
theorem zc86 : zeroC Tryz.prog 86 = some [.nilsl, .nilsl, .int .u64 0] := by kernel_rfl
theorem tz90 : tsize Tryz.prog 90 = some 1 := by kernel_rfl
theorem zc90 : zeroC Tryz.prog 90 = some [.nilfunc] := by kernel_rfl
theorem tz91 : tsize Tryz.prog 91 = some 1 := by kernel_rfl
theorem zc91 : zeroC Tryz.prog 91 = some [.nilsl] := by kernel_rfl
theorem tz110 : tsize Tryz.prog 110 = some 1 := by kernel_rfl
theorem zc110 : zeroC Tryz.prog 110 = some [.int .u32 0] := by kernel_rfl
theorem tz111 : tsize Tryz.prog 111 = some 64 := by kernel_rfl
theorem tz113 : tsize Tryz.prog 113 = some 8 := by kernel_rfl
theorem zc113 : zeroC Tryz.prog 113 = some [.int .u32 0, .int .u32 0, .int .u32 0, .int .u32 0, .int .u32 0, .int .u32 0, .int .u32 0, .int .u32 0] := by kernel_rfl
theorem tz121 : tsize Tryz.prog 121 = some 1 := by kernel_rfl
theorem zc121 : zeroC Tryz.prog 121 = some [.nilptr] := by kernel_rfl
theorem tz122 : tsize Tryz.prog 122 = some 1 := by kernel_rfl
theorem zc122 : zeroC Tryz.prog 122 = some [.int .u64 0] := by kernel_rfl
theorem tz129 : tsize Tryz.prog 129 = some 1 := by kernel_rfl
theorem zc129 : zeroC Tryz.prog 129 = some [.nilsl] := by kernel_rfl
theorem tz134 : tsize Tryz.prog 134 = some 1 := by kernel_rfl
theorem zc134 : zeroC Tryz.prog 134 = some [.nilfunc] := by kernel_rfl
theorem tz135 : tsize Tryz.prog 135 = some 1 := by kernel_rfl
theorem zc135 : zeroC Tryz.prog 135 = some [.nilsl] := by kernel_rfl
attribute [go_sem] tz3 tz4 tz5 tz9 tz22 tz24 tz25 tz26 tz34 tz35 tz37 tz44 tz46 tz53 tz55 tz57 tz62 tz74 tz75 tz77 tz81 tz84 tz86 tz90 tz91 tz110 tz111 tz113 tz121 tz122 tz129 tz134 tz135 zc3 zc4 zc5 zc9 zc22 zc24 zc25 zc26 zc34 zc35 zc37 zc44 zc46 zc53 zc55 zc57 zc62 zc74 zc75 zc77 zc84 zc86 zc90 zc91 zc110 zc113 zc121 zc122 zc129 zc134 zc135 Tryz.underlying3 Tryz.underlying4 Tryz.underlying5 Tryz.underlying9 Tryz.underlying22 Tryz.underlying24 Tryz.underlying25 Tryz.underlying26 Tryz.underlying34 Tryz.underlying35 Tryz.underlying37 Tryz.underlying44 Tryz.underlying46 Tryz.underlying53 Tryz.underlying55 Tryz.underlying57 Tryz.underlying62 Tryz.underlying74 Tryz.underlying75 Tryz.underlying77 Tryz.underlying81 Tryz.underlying84 Tryz.underlying86 Tryz.underlying90 Tryz.underlying91 Tryz.underlying110 Tryz.underlying111 Tryz.underlying113 Tryz.underlying121 Tryz.underlying122 Tryz.underlying129 Tryz.underlying134 Tryz.underlying135
theorem bd3 : bodied Tryz.prog 3 = true := by kernel_rfl
theorem bd6 : bodied Tryz.prog 6 = true := by kernel_rfl
theorem bd7 : bodied Tryz.prog 7 = true := by kernel_rfl
theorem bd8 : bodied Tryz.prog 8 = true := by kernel_rfl
theorem bd9 : bodied Tryz.prog 9 = true := by kernel_rfl
theorem bd10 : bodied Tryz.prog 10 = true := by kernel_rfl
theorem bd11 : bodied Tryz.prog 11 = true := by kernel_rfl
theorem bd12 : bodied Tryz.prog 12 = true := by kernel_rfl
theorem bd14 : bodied Tryz.prog 14 = true := by kernel_rfl
theorem bd18 : bodied Tryz.prog 18 = true := by kernel_rfl
theorem bd19 : bodied Tryz.prog 19 = true := by kernel_rfl
theorem bd23 : bodied Tryz.prog 23 = true := by kernel_rfl
theorem bd24 : bodied Tryz.prog 24 = true := by kernel_rfl
theorem bd26 : bodied Tryz.prog 26 = true := by kernel_rfl
theorem bd28 : bodied Tryz.prog 28 = true := by kernel_rfl
theorem bd36 : bodied Tryz.prog 36 = true := by kernel_rfl
theorem bd41 : bodied Tryz.prog 41 = true := by kernel_rfl
theorem bd53 : bodied Tryz.prog 53 = true := by kernel_rfl
theorem bd63 : bodied Tryz.prog 63 = true := by kernel_rfl
theorem bd67 : bodied Tryz.prog 67 = true := by kernel_rfl
theorem bd68 : bodied Tryz.prog 68 = true := by kernel_rfl
theorem bd70 : bodied Tryz.prog 70 = true := by kernel_rfl
theorem bd72 : bodied Tryz.prog 72 = true := by kernel_rfl
theorem bd78 : bodied Tryz.prog 78 = true := by kernel_rfl
theorem bd79 : bodied Tryz.prog 79 = true := by kernel_rfl
theorem bd80 : bodied Tryz.prog 80 = true := by kernel_rfl
theorem bd81 : bodied Tryz.prog 81 = true := by kernel_rfl
theorem bd85 : bodied Tryz.prog 85 = true := by kernel_rfl
theorem bd86 : bodied Tryz.prog 86 = true := by kernel_rfl
theorem bd87 : bodied Tryz.prog 87 = true := by kernel_rfl
theorem bd88 : bodied Tryz.prog 88 = true := by kernel_rfl
theorem bd89 : bodied Tryz.prog 89 = true := by kernel_rfl
theorem bd92 : bodied Tryz.prog 92 = true := by kernel_rfl
theorem bd95 : bodied Tryz.prog 95 = true := by kernel_rfl
theorem bd96 : bodied Tryz.prog 96 = true := by kernel_rfl
theorem bd97 : bodied Tryz.prog 97 = true := by kernel_rfl
theorem bd98 : bodied Tryz.prog 98 = true := by kernel_rfl
theorem bd101 : bodied Tryz.prog 101 = true := by kernel_rfl
theorem bd102 : bodied Tryz.prog 102 = true := by kernel_rfl
theorem bd103 : bodied Tryz.prog 103 = true := by kernel_rfl
theorem bd113 : bodied Tryz.prog 113 = true := by kernel_rfl
theorem bd114 : bodied Tryz.prog 114 = true := by kernel_rfl
theorem bd115 : bodied Tryz.prog 115 = true := by kernel_rfl
theorem bd119 : bodied Tryz.prog 119 = true := by kernel_rfl
end Go.Proofs.YtcnekpoaaihjpaaGreatDoor
