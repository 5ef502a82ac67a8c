/- Facts on the tables of the program, each by the kernel: sizes, zero values, which functions have bodies. Conditions: none. -/
import Derived.Test.YtmdkibpieeiadaaAb6
import Derived.Test.YtmdkibpieeiadaaProg
import Derived.KernelRfl
namespace Go.Proofs.Ytmdkibpieeiadaa
open Go Go.Abs Go.Proofs
theorem tz0 : tsize Try.prog 0 = some 1 := by kernel_rfl
theorem tz1 : tsize Try.prog 1 = some 1 := by kernel_rfl
theorem zc1 : zeroC Try.prog 1 = some [.nilfunc] := by kernel_rfl
theorem tz2 : tsize Try.prog 2 = some 1 := by kernel_rfl
theorem zc2 : zeroC Try.prog 2 = some [.int .i64 0] := by kernel_rfl
theorem tz3 : tsize Try.prog 3 = some 1 := by kernel_rfl
theorem zc3 : zeroC Try.prog 3 = some [.int .i64 0] := by kernel_rfl
theorem tz4 : tsize Try.prog 4 = some 1 := by kernel_rfl
theorem zc4 : zeroC Try.prog 4 = some [.bool false] := by kernel_rfl
theorem tz5 : tsize Try.prog 5 = some 1 := by kernel_rfl
theorem zc5 : zeroC Try.prog 5 = some [.int .u8 0] := by kernel_rfl
theorem tz6 : tsize Try.prog 6 = some 1 := by kernel_rfl
theorem zc6 : zeroC Try.prog 6 = some [.int .u8 0] := by kernel_rfl
theorem tz7 : tsize Try.prog 7 = some 4 := by kernel_rfl
theorem zc7 : zeroC Try.prog 7 = some [.int .i64 0, .int .i64 0, .bool false, .int .u8 0] := by kernel_rfl
theorem tz8 : tsize Try.prog 8 = some 4 := by kernel_rfl
theorem zc8 : zeroC Try.prog 8 = some [.int .i64 0, .int .i64 0, .bool false, .int .u8 0] := by kernel_rfl
theorem tz9 : tsize Try.prog 9 = some 1 := by kernel_rfl
theorem zc9 : zeroC Try.prog 9 = some [.str []] := by kernel_rfl
theorem tz10 : tsize Try.prog 10 = some 1 := by kernel_rfl
theorem zc10 : zeroC Try.prog 10 = some [.str []] := by kernel_rfl
theorem tz11 : tsize Try.prog 11 = some 1 := by kernel_rfl
theorem zc11 : zeroC Try.prog 11 = some [.str []] := by kernel_rfl
theorem tz12 : tsize Try.prog 12 = some 1 := by kernel_rfl
theorem zc12 : zeroC Try.prog 12 = some [.int .u64 0] := by kernel_rfl
theorem tz13 : tsize Try.prog 13 = some 2 := by kernel_rfl
theorem zc13 : zeroC Try.prog 13 = some [.str [], .int .u64 0] := by kernel_rfl
theorem tz14 : tsize Try.prog 14 = some 2 := by kernel_rfl
theorem zc14 : zeroC Try.prog 14 = some [.str [], .int .u64 0] := by kernel_rfl
theorem tz15 : tsize Try.prog 15 = some 1 := by kernel_rfl
theorem zc15 : zeroC Try.prog 15 = some [.nilptr] := by kernel_rfl
theorem tz16 : tsize Try.prog 16 = some 1 := by kernel_rfl
theorem zc16 : zeroC Try.prog 16 = some [.nilptr] := by kernel_rfl
theorem tz17 : tsize Try.prog 17 = some 1 := by kernel_rfl
theorem zc17 : zeroC Try.prog 17 = some [.nilptr] := by kernel_rfl
theorem tz18 : tsize Try.prog 18 = some 1 := by kernel_rfl
theorem zc18 : zeroC Try.prog 18 = some [.nilptr] := by kernel_rfl
theorem tz19 : tsize Try.prog 19 = some 1 := by kernel_rfl
theorem zc19 : zeroC Try.prog 19 = some [.nilptr] := by kernel_rfl
theorem tz20 : tsize Try.prog 20 = some 1 := by kernel_rfl
theorem zc20 : zeroC Try.prog 20 = some [.nilif] := by kernel_rfl
theorem tz21 : tsize Try.prog 21 = some 1 := by kernel_rfl
theorem zc21 : zeroC Try.prog 21 = some [.int .i32 0] := by kernel_rfl
theorem tz22 : tsize Try.prog 22 = some 1 := by kernel_rfl
theorem zc22 : zeroC Try.prog 22 = some [.nilsl] := by kernel_rfl
theorem tz23 : tsize Try.prog 23 = some 1 := by kernel_rfl
theorem zc23 : zeroC Try.prog 23 = some [.nilfunc] := by kernel_rfl
theorem tz24 : tsize Try.prog 24 = some 1 := by kernel_rfl
theorem zc24 : zeroC Try.prog 24 = some [.nilfunc] := by kernel_rfl
theorem tz25 : tsize Try.prog 25 = some 1 := by kernel_rfl
theorem zc25 : zeroC Try.prog 25 = some [.nilsl] := by kernel_rfl
theorem tz26 : tsize Try.prog 26 = some 3 := by kernel_rfl
theorem zc26 : zeroC Try.prog 26 = some [.int .i64 0, .int .i64 0, .nilsl] := by kernel_rfl
theorem tz27 : tsize Try.prog 27 = some 3 := by kernel_rfl
theorem zc27 : zeroC Try.prog 27 = some [.int .i64 0, .int .i64 0, .nilsl] := by kernel_rfl
theorem tz28 : tsize Try.prog 28 = some 1 := by kernel_rfl
theorem zc28 : zeroC Try.prog 28 = some [.int .i64 0] := by kernel_rfl
theorem tz29 : tsize Try.prog 29 = some 1 := by kernel_rfl
theorem tz30 : tsize Try.prog 30 = some 1 := by kernel_rfl
theorem zc30 : zeroC Try.prog 30 = some [.nilfunc] := by kernel_rfl
theorem tz31 : tsize Try.prog 31 = some 1 := by kernel_rfl
theorem zc31 : zeroC Try.prog 31 = some [.nilptr] := by kernel_rfl
theorem tz32 : tsize Try.prog 32 = some 1 := by kernel_rfl
theorem tz33 : tsize Try.prog 33 = some 1 := by kernel_rfl
theorem zc33 : zeroC Try.prog 33 = some [.nilfunc] := by kernel_rfl
theorem tz34 : tsize Try.prog 34 = some 1 := by kernel_rfl
theorem tz35 : tsize Try.prog 35 = some 1 := by kernel_rfl
theorem zc35 : zeroC Try.prog 35 = some [.nilfunc] := by kernel_rfl
theorem tz36 : tsize Try.prog 36 = some 1 := by kernel_rfl
theorem zc36 : zeroC Try.prog 36 = some [.nilfunc] := by kernel_rfl
theorem tz37 : tsize Try.prog 37 = some 1 := by kernel_rfl
theorem zc37 : zeroC Try.prog 37 = some [.nilsl] := by kernel_rfl
theorem tz38 : tsize Try.prog 38 = some 1 := by kernel_rfl
theorem zc38 : zeroC Try.prog 38 = some [.nilfunc] := by kernel_rfl
theorem tz39 : tsize Try.prog 39 = some 1 := by kernel_rfl
theorem zc39 : zeroC Try.prog 39 = some [.nilfunc] := by kernel_rfl
theorem tz40 : tsize Try.prog 40 = some 1 := by kernel_rfl
theorem tz41 : tsize Try.prog 41 = some 1 := by kernel_rfl
theorem zc41 : zeroC Try.prog 41 = some [.nilfunc] := by kernel_rfl
theorem tz42 : tsize Try.prog 42 = some 1 := by kernel_rfl
theorem zc42 : zeroC Try.prog 42 = some [.nilfunc] := by kernel_rfl
theorem tz43 : tsize Try.prog 43 = some 1 := by kernel_rfl
theorem zc43 : zeroC Try.prog 43 = some [.nilfunc] := by kernel_rfl
theorem tz44 : tsize Try.prog 44 = some 1 := by kernel_rfl
theorem zc44 : zeroC Try.prog 44 = some [.nilsl] := by kernel_rfl
theorem tz45 : tsize Try.prog 45 = some 2 := by kernel_rfl
theorem zc45 : zeroC Try.prog 45 = some [.int .i64 0, .nilsl] := by kernel_rfl
theorem tz46 : tsize Try.prog 46 = some 2 := by kernel_rfl
theorem zc46 : zeroC Try.prog 46 = some [.int .i64 0, .nilsl] := by kernel_rfl
theorem tz47 : tsize Try.prog 47 = some 1 := by kernel_rfl
theorem zc47 : zeroC Try.prog 47 = some [.nilptr] := by kernel_rfl
theorem tz48 : tsize Try.prog 48 = some 1 := by kernel_rfl
theorem tz49 : tsize Try.prog 49 = some 1 := by kernel_rfl
theorem zc49 : zeroC Try.prog 49 = some [.nilfunc] := by kernel_rfl
theorem tz50 : tsize Try.prog 50 = some 1 := by kernel_rfl
theorem zc50 : zeroC Try.prog 50 = some [.nilfunc] := by kernel_rfl
theorem tz51 : tsize Try.prog 51 = some 1 := by kernel_rfl
theorem zc51 : zeroC Try.prog 51 = some [.nilfunc] := by kernel_rfl
theorem tz52 : tsize Try.prog 52 = some 1 := by kernel_rfl
theorem zc52 : zeroC Try.prog 52 = some [.nilfunc] := by kernel_rfl
theorem tz53 : tsize Try.prog 53 = some 1 := by kernel_rfl
theorem zc53 : zeroC Try.prog 53 = some [.nilfunc] := by kernel_rfl
theorem tz54 : tsize Try.prog 54 = some 1 := by kernel_rfl
theorem zc54 : zeroC Try.prog 54 = some [.nilfunc] := by kernel_rfl
theorem tz55 : tsize Try.prog 55 = some 32 := by kernel_rfl
theorem tz56 : tsize Try.prog 56 = some 32 := by kernel_rfl
theorem tz57 : tsize Try.prog 57 = some 1 := by kernel_rfl
theorem zc57 : zeroC Try.prog 57 = some [.nilfunc] := by kernel_rfl
theorem tz58 : tsize Try.prog 58 = some 1 := by kernel_rfl
theorem zc58 : zeroC Try.prog 58 = some [.nilfunc] := by kernel_rfl
theorem tz59 : tsize Try.prog 59 = some 1 := by kernel_rfl
theorem zc59 : zeroC Try.prog 59 = some [.nilfunc] := by kernel_rfl
theorem tz60 : tsize Try.prog 60 = some 1 := by kernel_rfl
theorem zc60 : zeroC Try.prog 60 = some [.nilmap] := by kernel_rfl
theorem tz61 : tsize Try.prog 61 = some 4 := by kernel_rfl
theorem zc61 : zeroC Try.prog 61 = some [.int .i64 0, .int .i64 0, .nilsl, .nilmap] := by kernel_rfl
theorem tz62 : tsize Try.prog 62 = some 4 := by kernel_rfl
theorem zc62 : zeroC Try.prog 62 = some [.int .i64 0, .int .i64 0, .nilsl, .nilmap] := by kernel_rfl
theorem tz63 : tsize Try.prog 63 = some 1 := by kernel_rfl
theorem zc63 : zeroC Try.prog 63 = some [.nilfunc] := by kernel_rfl
theorem tz64 : tsize Try.prog 64 = some 1 := by kernel_rfl
theorem zc64 : zeroC Try.prog 64 = some [.nilfunc] := by kernel_rfl
theorem tz65 : tsize Try.prog 65 = some 1 := by kernel_rfl
theorem zc65 : zeroC Try.prog 65 = some [.nilfunc] := by kernel_rfl
theorem tz66 : tsize Try.prog 66 = some 1 := by kernel_rfl
theorem zc66 : zeroC Try.prog 66 = some [.nilfunc] := by kernel_rfl
theorem tz67 : tsize Try.prog 67 = some 1 := by kernel_rfl
theorem zc67 : zeroC Try.prog 67 = some [.nilfunc] := by kernel_rfl
theorem tz68 : tsize Try.prog 68 = some 1 := by kernel_rfl
theorem tz69 : tsize Try.prog 69 = some 1 := by kernel_rfl
theorem zc69 : zeroC Try.prog 69 = some [.nilsl] := by kernel_rfl
theorem tz70 : tsize Try.prog 70 = some 4 := by kernel_rfl
theorem zc70 : zeroC Try.prog 70 = some [.int .i64 0, .int .i64 0, .nilsl, .nilsl] := by kernel_rfl
theorem tz71 : tsize Try.prog 71 = some 4 := by kernel_rfl
theorem zc71 : zeroC Try.prog 71 = some [.int .i64 0, .int .i64 0, .nilsl, .nilsl] := by kernel_rfl
theorem tz72 : tsize Try.prog 72 = some 1 := by kernel_rfl
theorem zc72 : zeroC Try.prog 72 = some [.nilfunc] := by kernel_rfl
theorem tz73 : tsize Try.prog 73 = some 1 := by kernel_rfl
theorem zc73 : zeroC Try.prog 73 = some [.int .u32 0] := by kernel_rfl
theorem tz74 : tsize Try.prog 74 = some 64 := by kernel_rfl
theorem tz75 : tsize Try.prog 75 = some 1 := by kernel_rfl
theorem zc75 : zeroC Try.prog 75 = some [.nilfunc] := by kernel_rfl
theorem tz76 : tsize Try.prog 76 = some 8 := by kernel_rfl
theorem zc76 : zeroC Try.prog 76 = some [.int .u32 0, .int .u32 0, .int .u32 0, .int .u32 0, .int .u32 0, .int .u32 0, .int .u32 0, .int .u32 0] := by kernel_rfl
theorem tz77 : tsize Try.prog 77 = some 1 := by kernel_rfl
theorem zc77 : zeroC Try.prog 77 = some [.nilfunc] := by kernel_rfl
theorem tz78 : tsize Try.prog 78 = some 1 := by kernel_rfl
theorem zc78 : zeroC Try.prog 78 = some [.nilfunc] := by kernel_rfl
theorem tz79 : tsize Try.prog 79 = some 1 := by kernel_rfl
theorem zc79 : zeroC Try.prog 79 = some [.nilfunc] := by kernel_rfl
theorem tz80 : tsize Try.prog 80 = some 1 := by kernel_rfl
theorem zc80 : zeroC Try.prog 80 = some [.int .u64 0] := by kernel_rfl
theorem tz81 : tsize Try.prog 81 = some 1 := by kernel_rfl
theorem zc81 : zeroC Try.prog 81 = some [.nilfunc] := by kernel_rfl
theorem tz82 : tsize Try.prog 82 = some 1 := by kernel_rfl
theorem zc82 : zeroC Try.prog 82 = some [.nilsl] := by kernel_rfl
theorem tz83 : tsize Try.prog 83 = some 1 := by kernel_rfl
theorem zc83 : zeroC Try.prog 83 = some [.nilfunc] := by kernel_rfl
theorem tz84 : tsize Try.prog 84 = some 1 := by kernel_rfl
theorem zc84 : zeroC Try.prog 84 = some [.nilfunc] := by kernel_rfl
theorem tz85 : tsize Try.prog 85 = some 1 := by kernel_rfl
theorem zc85 : zeroC Try.prog 85 = some [.int .u64 0] := by kernel_rfl
theorem tz86 : tsize Try.prog 86 = some 1 := by kernel_rfl
theorem zc86 : zeroC Try.prog 86 = some [.nilfunc] := by kernel_rfl
theorem tz87 : tsize Try.prog 87 = some 1 := by kernel_rfl
theorem tz88 : tsize Try.prog 88 = some 1 := by kernel_rfl
theorem zc88 : zeroC Try.prog 88 = some [.nilfunc] := by kernel_rfl
theorem tz89 : tsize Try.prog 89 = some 1 := by kernel_rfl
theorem zc89 : zeroC Try.prog 89 = some [.nilfunc] := by kernel_rfl
theorem tz90 : tsize Try.prog 90 = some 1 := by kernel_rfl
theorem zc90 : zeroC Try.prog 90 = some [.nilfunc] := by kernel_rfl
theorem tz91 : tsize Try.prog 91 = some 1 := by kernel_rfl
theorem zc91 : zeroC Try.prog 91 = some [.nilfunc] := by kernel_rfl
theorem tz92 : tsize Try.prog 92 = some 1 := by kernel_rfl
theorem zc92 : zeroC Try.prog 92 = some [.nilfunc] := by kernel_rfl
theorem tz93 : tsize Try.prog 93 = some 1 := by kernel_rfl
theorem zc93 : zeroC Try.prog 93 = some [.nilfunc] := by kernel_rfl
theorem tz94 : tsize Try.prog 94 = some 1 := by kernel_rfl
theorem zc94 : zeroC Try.prog 94 = some [.nilptr] := by kernel_rfl
theorem tz95 : tsize Try.prog 95 = some 1 := by kernel_rfl
theorem zc95 : zeroC Try.prog 95 = some [.nilfunc] := by kernel_rfl
theorem tz96 : tsize Try.prog 96 = some 1 := by kernel_rfl
theorem zc96 : zeroC Try.prog 96 = some [.nilfunc] := by kernel_rfl
theorem tz97 : tsize Try.prog 97 = some 1 := by kernel_rfl
theorem tz98 : tsize Try.prog 98 = some 1 := by kernel_rfl
theorem zc98 : zeroC Try.prog 98 = some [.nilfunc] := by kernel_rfl
theorem tz99 : tsize Try.prog 99 = some 1 := by kernel_rfl
theorem zc99 : zeroC Try.prog 99 = some [.nilfunc] := by kernel_rfl
theorem tz100 : tsize Try.prog 100 = some 1 := by kernel_rfl
theorem zc100 : zeroC Try.prog 100 = some [.nilfunc] := by kernel_rfl
theorem tz101 : tsize Try.prog 101 = some 1 := by kernel_rfl
theorem zc101 : zeroC Try.prog 101 = some [.nilfunc] := by kernel_rfl
theorem tz102 : tsize Try.prog 102 = some 1 := by kernel_rfl
theorem zc102 : zeroC Try.prog 102 = some [.nilfunc] := by kernel_rfl
theorem tz103 : tsize Try.prog 103 = some 1 := by kernel_rfl
theorem zc103 : zeroC Try.prog 103 = some [.nilfunc] := by kernel_rfl
theorem tz104 : tsize Try.prog 104 = some 1 := by kernel_rfl
theorem zc104 : zeroC Try.prog 104 = some [.nilfunc] := by kernel_rfl
theorem tz105 : tsize Try.prog 105 = some 1 := by kernel_rfl
theorem zc105 : zeroC Try.prog 105 = some [.nilfunc] := by kernel_rfl
theorem tz106 : tsize Try.prog 106 = some 4 := by kernel_rfl
theorem zc106 : zeroC Try.prog 106 = some [.nilptr, .nilptr, .nilptr, .str []] := by kernel_rfl
theorem tz107 : tsize Try.prog 107 = some 4 := by kernel_rfl
theorem zc107 : zeroC Try.prog 107 = some [.nilptr, .nilptr, .nilptr, .str []] := by kernel_rfl
theorem tz108 : tsize Try.prog 108 = some 0 := by kernel_rfl
theorem zc108 : zeroC Try.prog 108 = some [] := by kernel_rfl
theorem tz109 : tsize Try.prog 109 = some 0 := by kernel_rfl
theorem zc109 : zeroC Try.prog 109 = some [] := by kernel_rfl
theorem tz110 : tsize Try.prog 110 = some 0 := by kernel_rfl
theorem zc110 : zeroC Try.prog 110 = some [] := by kernel_rfl
theorem tz111 : tsize Try.prog 111 = some 1 := by kernel_rfl
theorem zc111 : zeroC Try.prog 111 = some [.nilfunc] := by kernel_rfl
theorem tz112 : tsize Try.prog 112 = some 1 := by kernel_rfl
theorem zc112 : zeroC Try.prog 112 = some [.int .u8 0] := by kernel_rfl
theorem tz113 : tsize Try.prog 113 = some 1 := by kernel_rfl
theorem zc113 : zeroC Try.prog 113 = some [.int .u8 0] := by kernel_rfl
theorem tz114 : tsize Try.prog 114 = some 1 := by kernel_rfl
theorem zc114 : zeroC Try.prog 114 = some [.nilfunc] := by kernel_rfl
theorem tz115 : tsize Try.prog 115 = some 1 := by kernel_rfl
theorem zc115 : zeroC Try.prog 115 = some [.nilptr] := by kernel_rfl
theorem tz116 : tsize Try.prog 116 = some 1 := by kernel_rfl
theorem zc116 : zeroC Try.prog 116 = some [.int .i32 0] := by kernel_rfl
theorem tz117 : tsize Try.prog 117 = some 1 := by kernel_rfl
theorem zc117 : zeroC Try.prog 117 = some [.int .i32 0] := by kernel_rfl
theorem tz118 : tsize Try.prog 118 = some 11 := by kernel_rfl
theorem zc118 : zeroC Try.prog 118 = some [.int .u64 0, .int .u64 0, .int .u32 0, .int .u8 0, .int .u8 0, .int .u8 0, .int .u8 0, .nilfunc, .nilptr, .int .i32 0, .int .i32 0] := by kernel_rfl
theorem tz119 : tsize Try.prog 119 = some 11 := by kernel_rfl
theorem zc119 : zeroC Try.prog 119 = some [.int .u64 0, .int .u64 0, .int .u32 0, .int .u8 0, .int .u8 0, .int .u8 0, .int .u8 0, .nilfunc, .nilptr, .int .i32 0, .int .i32 0] := by kernel_rfl
theorem tz120 : tsize Try.prog 120 = some 1 := by kernel_rfl
theorem zc120 : zeroC Try.prog 120 = some [.nilptr] := by kernel_rfl
attribute [go_sem] tz0 tz1 tz2 tz3 tz4 tz5 tz6 tz7 tz8 tz9 tz10 tz11 tz12 tz13 tz14 tz15 tz16 tz17 tz18 tz19 tz20 tz21 tz22 tz23 tz24 tz25 tz26 tz27 tz28 tz29 tz30 tz31 tz32 tz33 tz34 tz35 tz36 tz37 tz38 tz39 tz40 tz41 tz42 tz43 tz44 tz45 tz46 tz47 tz48 tz49 tz50 tz51 tz52 tz53 tz54 tz55 tz56 tz57 tz58 tz59 tz60 tz61 tz62 tz63 tz64 tz65 tz66 tz67 tz68 tz69 tz70 tz71 tz72 tz73 tz74 tz75 tz76 tz77 tz78 tz79 tz80 tz81 tz82 tz83 tz84 tz85 tz86 tz87 tz88 tz89 tz90 tz91 tz92 tz93 tz94 tz95 tz96 tz97 tz98 tz99 tz100 tz101 tz102 tz103 tz104 tz105 tz106 tz107 tz108 tz109 tz110 tz111 tz112 tz113 tz114 tz115 tz116 tz117 tz118 tz119 tz120 zc1 zc2 zc3 zc4 zc5 zc6 zc7 zc8 zc9 zc10 zc11 zc12 zc13 zc14 zc15 zc16 zc17 zc18 zc19 zc20 zc21 zc22 zc23 zc24 zc25 zc26 zc27 zc28 zc30 zc31 zc33 zc35 zc36 zc37 zc38 zc39 zc41 zc42 zc43 zc44 zc45 zc46 zc47 zc49 zc50 zc51 zc52 zc53 zc54 zc57 zc58 zc59 zc60 zc61 zc62 zc63 zc64 zc65 zc66 zc67 zc69 zc70 zc71 zc72 zc73 zc75 zc76 zc77 zc78 zc79 zc80 zc81 zc82 zc83 zc84 zc85 zc86 zc88 zc89 zc90 zc91 zc92 zc93 zc94 zc95 zc96 zc98 zc99 zc100 zc101 zc102 zc103 zc104 zc105 zc106 zc107 zc108 zc109 zc110 zc111 zc112 zc113 zc114 zc115 zc116 zc117 zc118 zc119 zc120 Try.underlying0 Try.underlying1 Try.underlying2 Try.underlying3 Try.underlying4 Try.underlying5 Try.underlying6 Try.underlying7 Try.underlying8 Try.underlying9 Try.underlying10 Try.underlying11 Try.underlying12 Try.underlying13 Try.underlying14 Try.underlying15 Try.underlying16 Try.underlying17 Try.underlying18 Try.underlying19 Try.underlying20 Try.underlying21 Try.underlying22 Try.underlying23 Try.underlying24 Try.underlying25 Try.underlying26 Try.underlying27 Try.underlying28 Try.underlying29 Try.underlying30 Try.underlying31 Try.underlying32 Try.underlying33 Try.underlying34 Try.underlying35 Try.underlying36 Try.underlying37 Try.underlying38 Try.underlying39 Try.underlying40 Try.underlying41 Try.underlying42 Try.underlying43 Try.underlying44 Try.underlying45 Try.underlying46 Try.underlying47 Try.underlying48 Try.underlying49 Try.underlying50 Try.underlying51 Try.underlying52 Try.underlying53 Try.underlying54 Try.underlying55 Try.underlying56 Try.underlying57 Try.underlying58 Try.underlying59 Try.underlying60 Try.underlying61 Try.underlying62 Try.underlying63 Try.underlying64 Try.underlying65 Try.underlying66 Try.underlying67 Try.underlying68 Try.underlying69 Try.underlying70 Try.underlying71 Try.underlying72 Try.underlying73 Try.underlying74 Try.underlying75 Try.underlying76 Try.underlying77 Try.underlying78 Try.underlying79 Try.underlying80 Try.underlying81 Try.underlying82 Try.underlying83 Try.underlying84 Try.underlying85 Try.underlying86 Try.underlying87 Try.underlying88 Try.underlying89 Try.underlying90 Try.underlying91 Try.underlying92 Try.underlying93 Try.underlying94 Try.underlying95 Try.underlying96 Try.underlying97 Try.underlying98 Try.underlying99 Try.underlying100 Try.underlying101 Try.underlying102 Try.underlying103 Try.underlying104 Try.underlying105 Try.underlying106 Try.underlying107 Try.underlying108 Try.underlying109 Try.underlying110 Try.underlying111 Try.underlying112 Try.underlying113 Try.underlying114 Try.underlying115 Try.underlying116 Try.underlying117 Try.underlying118 Try.underlying119 Try.underlying120
theorem bd2 : bodied Try.prog 2 = true := by kernel_rfl
theorem bd3 : bodied Try.prog 3 = true := by kernel_rfl
theorem bd4 : bodied Try.prog 4 = true := by kernel_rfl
theorem bd5 : bodied Try.prog 5 = true := by kernel_rfl
theorem bd6 : bodied Try.prog 6 = true := by kernel_rfl
theorem bd7 : bodied Try.prog 7 = true := by kernel_rfl
theorem bd8 : bodied Try.prog 8 = true := by kernel_rfl
theorem bd9 : bodied Try.prog 9 = true := by kernel_rfl
theorem bd10 : bodied Try.prog 10 = true := by kernel_rfl
theorem bd11 : bodied Try.prog 11 = true := by kernel_rfl
theorem bd12 : bodied Try.prog 12 = true := by kernel_rfl
theorem bd13 : bodied Try.prog 13 = true := by kernel_rfl
theorem bd14 : bodied Try.prog 14 = true := by kernel_rfl
theorem bd15 : bodied Try.prog 15 = true := by kernel_rfl
theorem bd16 : bodied Try.prog 16 = true := by kernel_rfl
theorem bd17 : bodied Try.prog 17 = true := by kernel_rfl
theorem bd18 : bodied Try.prog 18 = true := by kernel_rfl
theorem bd19 : bodied Try.prog 19 = true := by kernel_rfl
theorem bd20 : bodied Try.prog 20 = true := by kernel_rfl
theorem bd21 : bodied Try.prog 21 = true := by kernel_rfl
theorem bd22 : bodied Try.prog 22 = true := by kernel_rfl
theorem bd23 : bodied Try.prog 23 = true := by kernel_rfl
theorem bd24 : bodied Try.prog 24 = true := by kernel_rfl
theorem bd25 : bodied Try.prog 25 = true := by kernel_rfl
theorem bd26 : bodied Try.prog 26 = true := by kernel_rfl
theorem bd27 : bodied Try.prog 27 = true := by kernel_rfl
theorem bd28 : bodied Try.prog 28 = true := by kernel_rfl
theorem bd29 : bodied Try.prog 29 = true := by kernel_rfl
theorem bd30 : bodied Try.prog 30 = true := by kernel_rfl
theorem bd31 : bodied Try.prog 31 = true := by kernel_rfl
theorem bd32 : bodied Try.prog 32 = true := by kernel_rfl
theorem bd33 : bodied Try.prog 33 = true := by kernel_rfl
theorem bd34 : bodied Try.prog 34 = true := by kernel_rfl
theorem bd35 : bodied Try.prog 35 = true := by kernel_rfl
theorem bd36 : bodied Try.prog 36 = true := by kernel_rfl
theorem bd37 : bodied Try.prog 37 = true := by kernel_rfl
theorem bd38 : bodied Try.prog 38 = true := by kernel_rfl
theorem bd39 : bodied Try.prog 39 = true := by kernel_rfl
theorem bd40 : bodied Try.prog 40 = true := by kernel_rfl
theorem bd41 : bodied Try.prog 41 = true := by kernel_rfl
theorem bd42 : bodied Try.prog 42 = true := by kernel_rfl
theorem bd43 : bodied Try.prog 43 = true := by kernel_rfl
theorem bd44 : bodied Try.prog 44 = true := by kernel_rfl
theorem bd45 : bodied Try.prog 45 = true := by kernel_rfl
theorem bd46 : bodied Try.prog 46 = true := by kernel_rfl
theorem bd47 : bodied Try.prog 47 = true := by kernel_rfl
theorem bd48 : bodied Try.prog 48 = true := by kernel_rfl
theorem bd49 : bodied Try.prog 49 = true := by kernel_rfl
theorem bd50 : bodied Try.prog 50 = true := by kernel_rfl
theorem bd51 : bodied Try.prog 51 = true := by kernel_rfl
theorem bd52 : bodied Try.prog 52 = true := by kernel_rfl
theorem bd53 : bodied Try.prog 53 = true := by kernel_rfl
theorem bd54 : bodied Try.prog 54 = true := by kernel_rfl
theorem bd55 : bodied Try.prog 55 = true := by kernel_rfl
theorem bd56 : bodied Try.prog 56 = true := by kernel_rfl
theorem bd57 : bodied Try.prog 57 = true := by kernel_rfl
theorem bd58 : bodied Try.prog 58 = true := by kernel_rfl
theorem bd59 : bodied Try.prog 59 = true := by kernel_rfl
theorem bd60 : bodied Try.prog 60 = true := by kernel_rfl
theorem bd61 : bodied Try.prog 61 = true := by kernel_rfl
theorem bd62 : bodied Try.prog 62 = true := by kernel_rfl
theorem bd63 : bodied Try.prog 63 = true := by kernel_rfl
theorem bd64 : bodied Try.prog 64 = true := by kernel_rfl
theorem bd65 : bodied Try.prog 65 = true := by kernel_rfl
theorem bd66 : bodied Try.prog 66 = true := by kernel_rfl
theorem bd67 : bodied Try.prog 67 = true := by kernel_rfl
theorem bd68 : bodied Try.prog 68 = true := by kernel_rfl
end Go.Proofs.Ytmdkibpieeiadaa
