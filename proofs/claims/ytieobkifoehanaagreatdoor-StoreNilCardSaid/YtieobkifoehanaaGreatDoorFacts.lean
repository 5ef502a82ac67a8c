/- Facts on the tables of the program, each by the kernel: sizes, zero values, which functions have bodies. Conditions: none. -/
import Derived.Test.YtieobkifoehanaaGreatDoorAbs36
import Derived.Test.YtieobkifoehanaaGreatDoorProg
import Derived.KernelRfl
namespace Go.Proofs.YtieobkifoehanaaGreatDoor
open Go Go.Abs Go.Proofs
theorem tz0 : tsize Tryz.prog 0 = some 1 := by kernel_rfl
theorem tz1 : tsize Tryz.prog 1 = some 1 := by kernel_rfl
theorem zc1 : zeroC Tryz.prog 1 = some [.nilfunc] := by kernel_rfl
theorem tz2 : tsize Tryz.prog 2 = some 1 := by kernel_rfl
theorem zc2 : zeroC Tryz.prog 2 = some [.int .i64 0] := by kernel_rfl
theorem tz3 : tsize Tryz.prog 3 = some 1 := by kernel_rfl
theorem zc3 : zeroC Tryz.prog 3 = some [.int .i64 0] := by kernel_rfl
theorem tz4 : tsize Tryz.prog 4 = some 1 := by kernel_rfl
theorem zc4 : zeroC Tryz.prog 4 = some [.bool false] := by kernel_rfl
theorem tz5 : tsize Tryz.prog 5 = some 1 := by kernel_rfl
theorem zc5 : zeroC Tryz.prog 5 = some [.int .u8 0] := by kernel_rfl
theorem tz6 : tsize Tryz.prog 6 = some 1 := by kernel_rfl
theorem zc6 : zeroC Tryz.prog 6 = some [.int .u8 0] := by kernel_rfl
theorem tz7 : tsize Tryz.prog 7 = some 4 := by kernel_rfl
theorem zc7 : zeroC Tryz.prog 7 = some [.int .i64 0, .int .i64 0, .bool false, .int .u8 0] := by kernel_rfl
theorem tz8 : tsize Tryz.prog 8 = some 4 := by kernel_rfl
theorem zc8 : zeroC Tryz.prog 8 = some [.int .i64 0, .int .i64 0, .bool false, .int .u8 0] := by kernel_rfl
theorem tz9 : tsize Tryz.prog 9 = some 1 := by kernel_rfl
theorem zc9 : zeroC Tryz.prog 9 = some [.str []] := by kernel_rfl
theorem tz10 : tsize Tryz.prog 10 = some 1 := by kernel_rfl
theorem zc10 : zeroC Tryz.prog 10 = some [.str []] := by kernel_rfl
theorem tz11 : tsize Tryz.prog 11 = some 1 := by kernel_rfl
theorem zc11 : zeroC Tryz.prog 11 = some [.str []] := by kernel_rfl
theorem tz12 : tsize Tryz.prog 12 = some 1 := by kernel_rfl
theorem zc12 : zeroC Tryz.prog 12 = some [.int .u64 0] := by kernel_rfl
theorem tz13 : tsize Tryz.prog 13 = some 2 := by kernel_rfl
theorem zc13 : zeroC Tryz.prog 13 = some [.str [], .int .u64 0] := by kernel_rfl
theorem tz14 : tsize Tryz.prog 14 = some 2 := by kernel_rfl
theorem zc14 : zeroC Tryz.prog 14 = some [.str [], .int .u64 0] := by kernel_rfl
theorem tz15 : tsize Tryz.prog 15 = some 1 := by kernel_rfl
theorem zc15 : zeroC Tryz.prog 15 = some [.nilptr] := by kernel_rfl
theorem tz16 : tsize Tryz.prog 16 = some 1 := by kernel_rfl
theorem zc16 : zeroC Tryz.prog 16 = some [.nilptr] := by kernel_rfl
theorem tz17 : tsize Tryz.prog 17 = some 1 := by kernel_rfl
theorem zc17 : zeroC Tryz.prog 17 = some [.nilptr] := by kernel_rfl
theorem tz18 : tsize Tryz.prog 18 = some 1 := by kernel_rfl
theorem zc18 : zeroC Tryz.prog 18 = some [.nilptr] := by kernel_rfl
theorem tz19 : tsize Tryz.prog 19 = some 1 := by kernel_rfl
theorem zc19 : zeroC Tryz.prog 19 = some [.nilptr] := by kernel_rfl
theorem tz20 : tsize Tryz.prog 20 = some 1 := by kernel_rfl
theorem zc20 : zeroC Tryz.prog 20 = some [.nilif] := by kernel_rfl
theorem tz21 : tsize Tryz.prog 21 = some 1 := by kernel_rfl
theorem zc21 : zeroC Tryz.prog 21 = some [.int .i32 0] := by kernel_rfl
theorem tz22 : tsize Tryz.prog 22 = some 1 := by kernel_rfl
theorem zc22 : zeroC Tryz.prog 22 = some [.nilsl] := by kernel_rfl
theorem tz23 : tsize Tryz.prog 23 = some 1 := by kernel_rfl
theorem zc23 : zeroC Tryz.prog 23 = some [.nilfunc] := by kernel_rfl
theorem tz24 : tsize Tryz.prog 24 = some 1 := by kernel_rfl
theorem zc24 : zeroC Tryz.prog 24 = some [.nilsl] := by kernel_rfl
theorem tz25 : tsize Tryz.prog 25 = some 1 := by kernel_rfl
theorem zc25 : zeroC Tryz.prog 25 = some [.int .i64 0] := by kernel_rfl
theorem tz26 : tsize Tryz.prog 26 = some 1 := by kernel_rfl
theorem tz27 : tsize Tryz.prog 27 = some 1 := by kernel_rfl
theorem zc27 : zeroC Tryz.prog 27 = some [.nilfunc] := by kernel_rfl
theorem tz28 : tsize Tryz.prog 28 = some 1 := by kernel_rfl
theorem zc28 : zeroC Tryz.prog 28 = some [.nilptr] := by kernel_rfl
theorem tz29 : tsize Tryz.prog 29 = some 1 := by kernel_rfl
theorem tz30 : tsize Tryz.prog 30 = some 1 := by kernel_rfl
theorem zc30 : zeroC Tryz.prog 30 = some [.nilfunc] := by kernel_rfl
theorem tz31 : tsize Tryz.prog 31 = some 1 := by kernel_rfl
theorem zc31 : zeroC Tryz.prog 31 = some [.nilfunc] := by kernel_rfl
theorem tz32 : tsize Tryz.prog 32 = some 1 := by kernel_rfl
theorem zc32 : zeroC Tryz.prog 32 = some [.nilfunc] := by kernel_rfl
theorem tz33 : tsize Tryz.prog 33 = some 1 := by kernel_rfl
theorem zc33 : zeroC Tryz.prog 33 = some [.nilfunc] := by kernel_rfl
theorem tz34 : tsize Tryz.prog 34 = some 1 := by kernel_rfl
theorem zc34 : zeroC Tryz.prog 34 = some [.nilfunc] := by kernel_rfl
theorem tz35 : tsize Tryz.prog 35 = some 1 := by kernel_rfl
theorem zc35 : zeroC Tryz.prog 35 = some [.nilsl] := by kernel_rfl
theorem tz36 : tsize Tryz.prog 36 = some 1 := by kernel_rfl
theorem zc36 : zeroC Tryz.prog 36 = some [.nilfunc] := by kernel_rfl
theorem tz37 : tsize Tryz.prog 37 = some 1 := by kernel_rfl
theorem zc37 : zeroC Tryz.prog 37 = some [.nilptr] := by kernel_rfl
theorem tz38 : tsize Tryz.prog 38 = some 1 := by kernel_rfl
theorem tz39 : tsize Tryz.prog 39 = some 1 := by kernel_rfl
theorem zc39 : zeroC Tryz.prog 39 = some [.nilfunc] := by kernel_rfl
theorem tz40 : tsize Tryz.prog 40 = some 1 := by kernel_rfl
theorem zc40 : zeroC Tryz.prog 40 = some [.nilfunc] := by kernel_rfl
theorem tz41 : tsize Tryz.prog 41 = some 1 := by kernel_rfl
theorem zc41 : zeroC Tryz.prog 41 = some [.nilfunc] := by kernel_rfl
theorem tz42 : tsize Tryz.prog 42 = some 1 := by kernel_rfl
theorem zc42 : zeroC Tryz.prog 42 = some [.nilfunc] := by kernel_rfl
theorem tz43 : tsize Tryz.prog 43 = some 1 := by kernel_rfl
theorem zc43 : zeroC Tryz.prog 43 = some [.nilfunc] := by kernel_rfl
theorem tz44 : tsize Tryz.prog 44 = some 1 := by kernel_rfl
theorem zc44 : zeroC Tryz.prog 44 = some [.nilfunc] := by kernel_rfl
theorem tz45 : tsize Tryz.prog 45 = some 1 := by kernel_rfl
theorem zc45 : zeroC Tryz.prog 45 = some [.nilfunc] := by kernel_rfl
theorem tz46 : tsize Tryz.prog 46 = some 1 := by kernel_rfl
theorem zc46 : zeroC Tryz.prog 46 = some [.nilfunc] := by kernel_rfl
theorem tz47 : tsize Tryz.prog 47 = some 1 := by kernel_rfl
theorem zc47 : zeroC Tryz.prog 47 = some [.nilfunc] := by kernel_rfl
theorem tz48 : tsize Tryz.prog 48 = some 1 := by kernel_rfl
theorem zc48 : zeroC Tryz.prog 48 = some [.nilptr] := by kernel_rfl
theorem tz49 : tsize Tryz.prog 49 = some 1 := by kernel_rfl
theorem tz50 : tsize Tryz.prog 50 = some 1 := by kernel_rfl
theorem zc50 : zeroC Tryz.prog 50 = some [.nilfunc] := by kernel_rfl
theorem tz51 : tsize Tryz.prog 51 = some 1 := by kernel_rfl
theorem tz52 : tsize Tryz.prog 52 = some 1 := by kernel_rfl
theorem zc52 : zeroC Tryz.prog 52 = some [.nilfunc] := by kernel_rfl
theorem tz53 : tsize Tryz.prog 53 = some 1 := by kernel_rfl
theorem tz54 : tsize Tryz.prog 54 = some 1 := by kernel_rfl
theorem zc54 : zeroC Tryz.prog 54 = some [.nilfunc] := by kernel_rfl
theorem tz55 : tsize Tryz.prog 55 = some 1 := by kernel_rfl
theorem zc55 : zeroC Tryz.prog 55 = some [.nilfunc] := by kernel_rfl
theorem tz56 : tsize Tryz.prog 56 = some 1 := by kernel_rfl
theorem zc56 : zeroC Tryz.prog 56 = some [.nilfunc] := by kernel_rfl
theorem tz57 : tsize Tryz.prog 57 = some 1 := by kernel_rfl
theorem zc57 : zeroC Tryz.prog 57 = some [.nilfunc] := by kernel_rfl
theorem tz58 : tsize Tryz.prog 58 = some 1 := by kernel_rfl
theorem zc58 : zeroC Tryz.prog 58 = some [.nilfunc] := by kernel_rfl
theorem tz59 : tsize Tryz.prog 59 = some 1 := by kernel_rfl
theorem zc59 : zeroC Tryz.prog 59 = some [.nilfunc] := by kernel_rfl
theorem tz60 : tsize Tryz.prog 60 = some 1 := by kernel_rfl
theorem tz61 : tsize Tryz.prog 61 = some 1 := by kernel_rfl
theorem zc61 : zeroC Tryz.prog 61 = some [.nilfunc] := by kernel_rfl
theorem tz62 : tsize Tryz.prog 62 = some 1 := by kernel_rfl
theorem zc62 : zeroC Tryz.prog 62 = some [.nilsl] := by kernel_rfl
theorem tz63 : tsize Tryz.prog 63 = some 3 := by kernel_rfl
theorem zc63 : zeroC Tryz.prog 63 = some [.int .i64 0, .int .i64 0, .nilsl] := by kernel_rfl
theorem tz64 : tsize Tryz.prog 64 = some 3 := by kernel_rfl
theorem zc64 : zeroC Tryz.prog 64 = some [.int .i64 0, .int .i64 0, .nilsl] := by kernel_rfl
theorem tz65 : tsize Tryz.prog 65 = some 1 := by kernel_rfl
theorem zc65 : zeroC Tryz.prog 65 = some [.nilfunc] := by kernel_rfl
theorem tz66 : tsize Tryz.prog 66 = some 1 := by kernel_rfl
theorem zc66 : zeroC Tryz.prog 66 = some [.nilsl] := by kernel_rfl
theorem tz67 : tsize Tryz.prog 67 = some 1 := by kernel_rfl
theorem zc67 : zeroC Tryz.prog 67 = some [.nilfunc] := by kernel_rfl
theorem tz68 : tsize Tryz.prog 68 = some 1 := by kernel_rfl
theorem tz69 : tsize Tryz.prog 69 = some 1 := by kernel_rfl
theorem zc69 : zeroC Tryz.prog 69 = some [.nilfunc] := by kernel_rfl
theorem tz70 : tsize Tryz.prog 70 = some 2 := by kernel_rfl
theorem zc70 : zeroC Tryz.prog 70 = some [.int .i64 0, .nilsl] := by kernel_rfl
theorem tz71 : tsize Tryz.prog 71 = some 2 := by kernel_rfl
theorem zc71 : zeroC Tryz.prog 71 = some [.int .i64 0, .nilsl] := by kernel_rfl
theorem tz72 : tsize Tryz.prog 72 = some 1 := by kernel_rfl
theorem tz73 : tsize Tryz.prog 73 = some 1 := by kernel_rfl
theorem zc73 : zeroC Tryz.prog 73 = some [.nilfunc] := by kernel_rfl
theorem tz74 : tsize Tryz.prog 74 = some 1 := by kernel_rfl
theorem zc74 : zeroC Tryz.prog 74 = some [.nilfunc] := by kernel_rfl
theorem tz75 : tsize Tryz.prog 75 = some 1 := by kernel_rfl
theorem zc75 : zeroC Tryz.prog 75 = some [.nilfunc] := by kernel_rfl
theorem tz76 : tsize Tryz.prog 76 = some 1 := by kernel_rfl
theorem zc76 : zeroC Tryz.prog 76 = some [.nilfunc] := by kernel_rfl
theorem tz77 : tsize Tryz.prog 77 = some 1 := by kernel_rfl
theorem zc77 : zeroC Tryz.prog 77 = some [.nilfunc] := by kernel_rfl
theorem tz78 : tsize Tryz.prog 78 = some 1 := by kernel_rfl
theorem zc78 : zeroC Tryz.prog 78 = some [.nilsl] := by kernel_rfl
theorem tz79 : tsize Tryz.prog 79 = some 1 := by kernel_rfl
theorem zc79 : zeroC Tryz.prog 79 = some [.nilptr] := by kernel_rfl
theorem tz80 : tsize Tryz.prog 80 = some 1 := by kernel_rfl
theorem tz81 : tsize Tryz.prog 81 = some 1 := by kernel_rfl
theorem zc81 : zeroC Tryz.prog 81 = some [.nilfunc] := by kernel_rfl
theorem tz82 : tsize Tryz.prog 82 = some 4 := by kernel_rfl
theorem zc82 : zeroC Tryz.prog 82 = some [.int .i64 0, .str [], .nilsl, .int .i64 0] := by kernel_rfl
theorem tz83 : tsize Tryz.prog 83 = some 4 := by kernel_rfl
theorem zc83 : zeroC Tryz.prog 83 = some [.int .i64 0, .str [], .nilsl, .int .i64 0] := by kernel_rfl
theorem tz84 : tsize Tryz.prog 84 = some 1 := by kernel_rfl
theorem zc84 : zeroC Tryz.prog 84 = some [.nilfunc] := by kernel_rfl
theorem tz85 : tsize Tryz.prog 85 = some 1 := by kernel_rfl
theorem zc85 : zeroC Tryz.prog 85 = some [.nilfunc] := by kernel_rfl
theorem tz86 : tsize Tryz.prog 86 = some 1 := by kernel_rfl
theorem zc86 : zeroC Tryz.prog 86 = some [.nilfunc] := by kernel_rfl
theorem tz87 : tsize Tryz.prog 87 = some 1 := by kernel_rfl
theorem zc87 : zeroC Tryz.prog 87 = some [.nilfunc] := by kernel_rfl
theorem tz88 : tsize Tryz.prog 88 = some 1 := by kernel_rfl
theorem zc88 : zeroC Tryz.prog 88 = some [.nilfunc] := by kernel_rfl
theorem tz89 : tsize Tryz.prog 89 = some 1 := by kernel_rfl
theorem zc89 : zeroC Tryz.prog 89 = some [.nilfunc] := by kernel_rfl
theorem tz90 : tsize Tryz.prog 90 = some 1 := by kernel_rfl
theorem zc90 : zeroC Tryz.prog 90 = some [.nilsl] := by kernel_rfl
theorem tz91 : tsize Tryz.prog 91 = some 1 := by kernel_rfl
theorem zc91 : zeroC Tryz.prog 91 = some [.nilfunc] := by kernel_rfl
theorem tz92 : tsize Tryz.prog 92 = some 1 := by kernel_rfl
theorem zc92 : zeroC Tryz.prog 92 = some [.nilfunc] := by kernel_rfl
theorem tz93 : tsize Tryz.prog 93 = some 1 := by kernel_rfl
theorem zc93 : zeroC Tryz.prog 93 = some [.nilptr] := by kernel_rfl
theorem tz94 : tsize Tryz.prog 94 = some 1 := by kernel_rfl
theorem tz95 : tsize Tryz.prog 95 = some 1 := by kernel_rfl
theorem zc95 : zeroC Tryz.prog 95 = some [.nilfunc] := by kernel_rfl
theorem tz96 : tsize Tryz.prog 96 = some 1 := by kernel_rfl
theorem zc96 : zeroC Tryz.prog 96 = some [.nilfunc] := by kernel_rfl
theorem tz97 : tsize Tryz.prog 97 = some 3 := by kernel_rfl
theorem zc97 : zeroC Tryz.prog 97 = some [.str [], .str [], .bool false] := by kernel_rfl
theorem tz98 : tsize Tryz.prog 98 = some 3 := by kernel_rfl
theorem zc98 : zeroC Tryz.prog 98 = some [.str [], .str [], .bool false] := by kernel_rfl
theorem tz99 : tsize Tryz.prog 99 = some 1 := by kernel_rfl
theorem zc99 : zeroC Tryz.prog 99 = some [.nilsl] := by kernel_rfl
theorem tz100 : tsize Tryz.prog 100 = some 1 := by kernel_rfl
theorem zc100 : zeroC Tryz.prog 100 = some [.nilfunc] := by kernel_rfl
theorem tz101 : tsize Tryz.prog 101 = some 1 := by kernel_rfl
theorem zc101 : zeroC Tryz.prog 101 = some [.nilptr] := by kernel_rfl
theorem tz102 : tsize Tryz.prog 102 = some 1 := by kernel_rfl
theorem zc102 : zeroC Tryz.prog 102 = some [.nilptr] := by kernel_rfl
theorem tz103 : tsize Tryz.prog 103 = some 1 := by kernel_rfl
theorem zc103 : zeroC Tryz.prog 103 = some [.nilptr] := by kernel_rfl
theorem tz104 : tsize Tryz.prog 104 = some 1 := by kernel_rfl
theorem zc104 : zeroC Tryz.prog 104 = some [.nilfunc] := by kernel_rfl
theorem tz105 : tsize Tryz.prog 105 = some 1 := by kernel_rfl
theorem zc105 : zeroC Tryz.prog 105 = some [.nilsl] := by kernel_rfl
theorem tz106 : tsize Tryz.prog 106 = some 1 := by kernel_rfl
theorem zc106 : zeroC Tryz.prog 106 = some [.nilsl] := by kernel_rfl
theorem tz107 : tsize Tryz.prog 107 = some 1 := by kernel_rfl
theorem zc107 : zeroC Tryz.prog 107 = some [.nilfunc] := by kernel_rfl
theorem tz108 : tsize Tryz.prog 108 = some 1 := by kernel_rfl
theorem zc108 : zeroC Tryz.prog 108 = some [.nilfunc] := by kernel_rfl
theorem tz109 : tsize Tryz.prog 109 = some 1 := by kernel_rfl
theorem zc109 : zeroC Tryz.prog 109 = some [.nilfunc] := by kernel_rfl
theorem tz110 : tsize Tryz.prog 110 = some 1 := by kernel_rfl
theorem tz111 : tsize Tryz.prog 111 = some 1 := by kernel_rfl
theorem zc111 : zeroC Tryz.prog 111 = some [.nilfunc] := by kernel_rfl
theorem tz112 : tsize Tryz.prog 112 = some 1 := by kernel_rfl
theorem tz113 : tsize Tryz.prog 113 = some 1 := by kernel_rfl
theorem zc113 : zeroC Tryz.prog 113 = some [.nilfunc] := by kernel_rfl
theorem tz114 : tsize Tryz.prog 114 = some 1 := by kernel_rfl
theorem zc114 : zeroC Tryz.prog 114 = some [.nilfunc] := by kernel_rfl
theorem tz115 : tsize Tryz.prog 115 = some 1 := by kernel_rfl
theorem zc115 : zeroC Tryz.prog 115 = some [.nilfunc] := by kernel_rfl
theorem tz116 : tsize Tryz.prog 116 = some 1 := by kernel_rfl
theorem zc116 : zeroC Tryz.prog 116 = some [.nilfunc] := by kernel_rfl
theorem tz117 : tsize Tryz.prog 117 = some 1 := by kernel_rfl
theorem zc117 : zeroC Tryz.prog 117 = some [.nilfunc] := by kernel_rfl
theorem tz118 : tsize Tryz.prog 118 = some 1 := by kernel_rfl
theorem zc118 : zeroC Tryz.prog 118 = some [.nilfunc] := by kernel_rfl
theorem tz119 : tsize Tryz.prog 119 = some 1 := by kernel_rfl
theorem zc119 : zeroC Tryz.prog 119 = some [.nilfunc] := by kernel_rfl
theorem tz120 : tsize Tryz.prog 120 = some 1 := by kernel_rfl
theorem tz121 : tsize Tryz.prog 121 = some 1 := by kernel_rfl
theorem zc121 : zeroC Tryz.prog 121 = some [.nilfunc] := by kernel_rfl
theorem tz122 : tsize Tryz.prog 122 = some 1 := by kernel_rfl
theorem zc122 : zeroC Tryz.prog 122 = some [.nilfunc] := by kernel_rfl
theorem tz123 : tsize Tryz.prog 123 = some 1 := by kernel_rfl
theorem zc123 : zeroC Tryz.prog 123 = some [.nilfunc] := by kernel_rfl
theorem tz124 : tsize Tryz.prog 124 = some 1 := by kernel_rfl
theorem zc124 : zeroC Tryz.prog 124 = some [.nilsl] := by kernel_rfl
theorem tz125 : tsize Tryz.prog 125 = some 1 := by kernel_rfl
theorem zc125 : zeroC Tryz.prog 125 = some [.nilfunc] := by kernel_rfl
theorem tz126 : tsize Tryz.prog 126 = some 1 := by kernel_rfl
theorem zc126 : zeroC Tryz.prog 126 = some [.nilfunc] := by kernel_rfl
theorem tz127 : tsize Tryz.prog 127 = some 1 := by kernel_rfl
theorem zc127 : zeroC Tryz.prog 127 = some [.nilfunc] := by kernel_rfl
theorem tz128 : tsize Tryz.prog 128 = some 1 := by kernel_rfl
theorem zc128 : zeroC Tryz.prog 128 = some [.nilfunc] := by kernel_rfl
theorem tz129 : tsize Tryz.prog 129 = some 1 := by kernel_rfl
theorem zc129 : zeroC Tryz.prog 129 = some [.int .u32 0] := by kernel_rfl
theorem tz130 : tsize Tryz.prog 130 = some 1 := by kernel_rfl
theorem zc130 : zeroC Tryz.prog 130 = some [.int .u64 0] := by kernel_rfl
theorem tz131 : tsize Tryz.prog 131 = some 1 := by kernel_rfl
theorem tz132 : tsize Tryz.prog 132 = some 1 := by kernel_rfl
theorem zc132 : zeroC Tryz.prog 132 = some [.nilfunc] := by kernel_rfl
theorem tz133 : tsize Tryz.prog 133 = some 1 := by kernel_rfl
theorem zc133 : zeroC Tryz.prog 133 = some [.int .i64 0] := by kernel_rfl
theorem tz134 : tsize Tryz.prog 134 = some 1 := by kernel_rfl
theorem zc134 : zeroC Tryz.prog 134 = some [.int .i64 0] := by kernel_rfl
theorem tz135 : tsize Tryz.prog 135 = some 5 := by kernel_rfl
theorem zc135 : zeroC Tryz.prog 135 = some [.int .i64 0, .nilptr, .str [], .int .i64 0, .int .i64 0] := by kernel_rfl
theorem tz136 : tsize Tryz.prog 136 = some 5 := by kernel_rfl
theorem zc136 : zeroC Tryz.prog 136 = some [.int .i64 0, .nilptr, .str [], .int .i64 0, .int .i64 0] := by kernel_rfl
theorem tz137 : tsize Tryz.prog 137 = some 1 := by kernel_rfl
theorem zc137 : zeroC Tryz.prog 137 = some [.int .u64 0] := by kernel_rfl
theorem tz138 : tsize Tryz.prog 138 = some 1 := by kernel_rfl
theorem tz139 : tsize Tryz.prog 139 = some 1 := by kernel_rfl
theorem zc139 : zeroC Tryz.prog 139 = some [.nilfunc] := by kernel_rfl
theorem tz140 : tsize Tryz.prog 140 = some 1 := by kernel_rfl
theorem zc140 : zeroC Tryz.prog 140 = some [.nilfunc] := by kernel_rfl
theorem tz141 : tsize Tryz.prog 141 = some 1 := by kernel_rfl
theorem zc141 : zeroC Tryz.prog 141 = some [.nilfunc] := by kernel_rfl
theorem tz142 : tsize Tryz.prog 142 = some 1 := by kernel_rfl
theorem zc142 : zeroC Tryz.prog 142 = some [.nilmap] := by kernel_rfl
theorem tz143 : tsize Tryz.prog 143 = some 1 := by kernel_rfl
theorem zc143 : zeroC Tryz.prog 143 = some [.nilmap] := by kernel_rfl
theorem tz144 : tsize Tryz.prog 144 = some 1 := by kernel_rfl
theorem zc144 : zeroC Tryz.prog 144 = some [.nilsl] := by kernel_rfl
theorem tz145 : tsize Tryz.prog 145 = some 8 := by kernel_rfl
theorem zc145 : zeroC Tryz.prog 145 = some [.bool false, .int .i64 0, .nilmap, .nilmap, .nilsl, .int .u64 0, .bool false, .int .i64 0] := by kernel_rfl
theorem tz146 : tsize Tryz.prog 146 = some 8 := by kernel_rfl
theorem zc146 : zeroC Tryz.prog 146 = some [.bool false, .int .i64 0, .nilmap, .nilmap, .nilsl, .int .u64 0, .bool false, .int .i64 0] := by kernel_rfl
theorem tz147 : tsize Tryz.prog 147 = some 1 := by kernel_rfl
theorem zc147 : zeroC Tryz.prog 147 = some [.nilfunc] := by kernel_rfl
theorem tz148 : tsize Tryz.prog 148 = some 1 := by kernel_rfl
theorem zc148 : zeroC Tryz.prog 148 = some [.nilfunc] := by kernel_rfl
theorem tz149 : tsize Tryz.prog 149 = some 1 := by kernel_rfl
theorem zc149 : zeroC Tryz.prog 149 = some [.nilfunc] := by kernel_rfl
theorem tz150 : tsize Tryz.prog 150 = some 1 := by kernel_rfl
theorem zc150 : zeroC Tryz.prog 150 = some [.nilfunc] := by kernel_rfl
theorem tz151 : tsize Tryz.prog 151 = some 1 := by kernel_rfl
theorem zc151 : zeroC Tryz.prog 151 = some [.nilptr] := by kernel_rfl
theorem tz152 : tsize Tryz.prog 152 = some 1 := by kernel_rfl
theorem zc152 : zeroC Tryz.prog 152 = some [.nilfunc] := by kernel_rfl
theorem tz153 : tsize Tryz.prog 153 = some 1 := by kernel_rfl
theorem zc153 : zeroC Tryz.prog 153 = some [.nilfunc] := by kernel_rfl
theorem tz154 : tsize Tryz.prog 154 = some 1 := by kernel_rfl
theorem zc154 : zeroC Tryz.prog 154 = some [.nilfunc] := by kernel_rfl
theorem tz155 : tsize Tryz.prog 155 = some 1 := by kernel_rfl
theorem zc155 : zeroC Tryz.prog 155 = some [.nilfunc] := by kernel_rfl
theorem tz156 : tsize Tryz.prog 156 = some 1 := by kernel_rfl
theorem zc156 : zeroC Tryz.prog 156 = some [.nilfunc] := by kernel_rfl
theorem tz157 : tsize Tryz.prog 157 = some 1 := by kernel_rfl
theorem zc157 : zeroC Tryz.prog 157 = some [.nilfunc] := by kernel_rfl
theorem tz158 : tsize Tryz.prog 158 = some 3 := by kernel_rfl
theorem zc158 : zeroC Tryz.prog 158 = some [.nilsl, .nilsl, .int .u64 0] := by kernel_rfl
theorem tz159 : tsize Tryz.prog 159 = some 3 := by kernel_rfl
theorem zc159 : zeroC Tryz.prog 159 = some [.nilsl, .nilsl, .int .u64 0] := by kernel_rfl
theorem tz160 : tsize Tryz.prog 160 = some 1 := by kernel_rfl
theorem zc160 : zeroC Tryz.prog 160 = some [.nilfunc] := by kernel_rfl
theorem tz161 : tsize Tryz.prog 161 = some 1 := by kernel_rfl
theorem zc161 : zeroC Tryz.prog 161 = some [.nilfunc] := by kernel_rfl
theorem tz162 : tsize Tryz.prog 162 = some 1 := by kernel_rfl
theorem zc162 : zeroC Tryz.prog 162 = some [.nilfunc] := by kernel_rfl
theorem tz163 : tsize Tryz.prog 163 = some 1 := by kernel_rfl
theorem zc163 : zeroC Tryz.prog 163 = some [.nilfunc] := by kernel_rfl
theorem tz164 : tsize Tryz.prog 164 = some 1 := by kernel_rfl
theorem zc164 : zeroC Tryz.prog 164 = some [.nilfunc] := by kernel_rfl
theorem tz165 : tsize Tryz.prog 165 = some 1 := by kernel_rfl
theorem zc165 : zeroC Tryz.prog 165 = some [.nilmap] := by kernel_rfl
theorem tz166 : tsize Tryz.prog 166 = some 4 := by kernel_rfl
theorem zc166 : zeroC Tryz.prog 166 = some [.int .i64 0, .int .i64 0, .nilsl, .nilmap] := by kernel_rfl
theorem tz167 : tsize Tryz.prog 167 = some 4 := by kernel_rfl
theorem zc167 : zeroC Tryz.prog 167 = some [.int .i64 0, .int .i64 0, .nilsl, .nilmap] := by kernel_rfl
theorem tz168 : tsize Tryz.prog 168 = some 1 := by kernel_rfl
theorem zc168 : zeroC Tryz.prog 168 = some [.nilfunc] := by kernel_rfl
theorem tz169 : tsize Tryz.prog 169 = some 1 := by kernel_rfl
theorem zc169 : zeroC Tryz.prog 169 = some [.nilfunc] := by kernel_rfl
theorem tz170 : tsize Tryz.prog 170 = some 1 := by kernel_rfl
theorem tz171 : tsize Tryz.prog 171 = some 1 := by kernel_rfl
theorem zc171 : zeroC Tryz.prog 171 = some [.nilfunc] := by kernel_rfl
theorem tz172 : tsize Tryz.prog 172 = some 1 := by kernel_rfl
theorem zc172 : zeroC Tryz.prog 172 = some [.nilfunc] := by kernel_rfl
theorem tz173 : tsize Tryz.prog 173 = some 1 := by kernel_rfl
theorem zc173 : zeroC Tryz.prog 173 = some [.nilfunc] := by kernel_rfl
theorem tz174 : tsize Tryz.prog 174 = some 1 := by kernel_rfl
theorem zc174 : zeroC Tryz.prog 174 = some [.nilfunc] := by kernel_rfl
theorem tz175 : tsize Tryz.prog 175 = some 32 := by kernel_rfl
theorem tz176 : tsize Tryz.prog 176 = some 32 := by kernel_rfl
theorem tz177 : tsize Tryz.prog 177 = some 1 := by kernel_rfl
theorem zc177 : zeroC Tryz.prog 177 = some [.nilfunc] := by kernel_rfl
theorem tz178 : tsize Tryz.prog 178 = some 1 := by kernel_rfl
theorem zc178 : zeroC Tryz.prog 178 = some [.nilfunc] := by kernel_rfl
theorem tz179 : tsize Tryz.prog 179 = some 1 := by kernel_rfl
theorem zc179 : zeroC Tryz.prog 179 = some [.nilfunc] := by kernel_rfl
theorem tz180 : tsize Tryz.prog 180 = some 1 := by kernel_rfl
theorem zc180 : zeroC Tryz.prog 180 = some [.nilsl] := by kernel_rfl
theorem tz181 : tsize Tryz.prog 181 = some 1 := by kernel_rfl
theorem zc181 : zeroC Tryz.prog 181 = some [.nilsl] := by kernel_rfl
theorem tz182 : tsize Tryz.prog 182 = some 7 := by kernel_rfl
theorem zc182 : zeroC Tryz.prog 182 = some [.int .i64 0, .nilsl, .nilsl, .nilsl, .int .u64 0, .bool false, .int .i64 0] := by kernel_rfl
theorem tz183 : tsize Tryz.prog 183 = some 7 := by kernel_rfl
theorem zc183 : zeroC Tryz.prog 183 = some [.int .i64 0, .nilsl, .nilsl, .nilsl, .int .u64 0, .bool false, .int .i64 0] := by kernel_rfl
theorem tz184 : tsize Tryz.prog 184 = some 1 := by kernel_rfl
theorem zc184 : zeroC Tryz.prog 184 = some [.nilfunc] := by kernel_rfl
theorem tz185 : tsize Tryz.prog 185 = some 1 := by kernel_rfl
theorem zc185 : zeroC Tryz.prog 185 = some [.nilfunc] := by kernel_rfl
theorem tz186 : tsize Tryz.prog 186 = some 1 := by kernel_rfl
theorem zc186 : zeroC Tryz.prog 186 = some [.nilptr] := by kernel_rfl
theorem tz187 : tsize Tryz.prog 187 = some 1 := by kernel_rfl
theorem zc187 : zeroC Tryz.prog 187 = some [.nilfunc] := by kernel_rfl
theorem tz188 : tsize Tryz.prog 188 = some 3 := by kernel_rfl
theorem zc188 : zeroC Tryz.prog 188 = some [.nilsl, .nilsl, .int .u64 0] := by kernel_rfl
theorem tz189 : tsize Tryz.prog 189 = some 3 := by kernel_rfl
theorem zc189 : zeroC Tryz.prog 189 = some [.nilsl, .nilsl, .int .u64 0] := by kernel_rfl
theorem tz190 : tsize Tryz.prog 190 = some 1 := by kernel_rfl
theorem zc190 : zeroC Tryz.prog 190 = some [.nilfunc] := by kernel_rfl
theorem tz191 : tsize Tryz.prog 191 = some 4 := by kernel_rfl
theorem zc191 : zeroC Tryz.prog 191 = some [.int .i64 0, .str [], .str [], .nilptr] := by kernel_rfl
theorem tz192 : tsize Tryz.prog 192 = some 4 := by kernel_rfl
theorem zc192 : zeroC Tryz.prog 192 = some [.int .i64 0, .str [], .str [], .nilptr] := by kernel_rfl
theorem tz193 : tsize Tryz.prog 193 = some 1 := by kernel_rfl
theorem zc193 : zeroC Tryz.prog 193 = some [.nilfunc] := by kernel_rfl
theorem tz194 : tsize Tryz.prog 194 = some 2 := by kernel_rfl
theorem zc194 : zeroC Tryz.prog 194 = some [.str [], .nilptr] := by kernel_rfl
theorem tz195 : tsize Tryz.prog 195 = some 2 := by kernel_rfl
theorem zc195 : zeroC Tryz.prog 195 = some [.str [], .nilptr] := by kernel_rfl
theorem tz196 : tsize Tryz.prog 196 = some 2 := by kernel_rfl
theorem zc196 : zeroC Tryz.prog 196 = some [.str [], .nilsl] := by kernel_rfl
theorem tz197 : tsize Tryz.prog 197 = some 2 := by kernel_rfl
theorem zc197 : zeroC Tryz.prog 197 = some [.str [], .nilsl] := by kernel_rfl
theorem tz198 : tsize Tryz.prog 198 = some 1 := by kernel_rfl
theorem zc198 : zeroC Tryz.prog 198 = some [.nilptr] := by kernel_rfl
theorem tz199 : tsize Tryz.prog 199 = some 1 := by kernel_rfl
theorem zc199 : zeroC Tryz.prog 199 = some [.nilptr] := by kernel_rfl
theorem tz200 : tsize Tryz.prog 200 = some 3 := by kernel_rfl
theorem zc200 : zeroC Tryz.prog 200 = some [.nilptr, .nilptr, .int .i64 0] := by kernel_rfl
theorem tz201 : tsize Tryz.prog 201 = some 3 := by kernel_rfl
theorem zc201 : zeroC Tryz.prog 201 = some [.nilptr, .nilptr, .int .i64 0] := by kernel_rfl
theorem tz202 : tsize Tryz.prog 202 = some 1 := by kernel_rfl
theorem zc202 : zeroC Tryz.prog 202 = some [.nilfunc] := by kernel_rfl
theorem tz203 : tsize Tryz.prog 203 = some 1 := by kernel_rfl
theorem zc203 : zeroC Tryz.prog 203 = some [.nilfunc] := by kernel_rfl
theorem tz204 : tsize Tryz.prog 204 = some 1 := by kernel_rfl
theorem zc204 : zeroC Tryz.prog 204 = some [.nilfunc] := by kernel_rfl
theorem tz205 : tsize Tryz.prog 205 = some 1 := by kernel_rfl
theorem zc205 : zeroC Tryz.prog 205 = some [.nilfunc] := by kernel_rfl
theorem tz206 : tsize Tryz.prog 206 = some 1 := by kernel_rfl
theorem zc206 : zeroC Tryz.prog 206 = some [.nilfunc] := by kernel_rfl
theorem tz207 : tsize Tryz.prog 207 = some 1 := by kernel_rfl
theorem zc207 : zeroC Tryz.prog 207 = some [.nilfunc] := by kernel_rfl
theorem tz208 : tsize Tryz.prog 208 = some 1 := by kernel_rfl
theorem zc208 : zeroC Tryz.prog 208 = some [.nilfunc] := by kernel_rfl
theorem tz209 : tsize Tryz.prog 209 = some 1 := by kernel_rfl
theorem tz210 : tsize Tryz.prog 210 = some 1 := by kernel_rfl
theorem zc210 : zeroC Tryz.prog 210 = some [.nilfunc] := by kernel_rfl
theorem tz211 : tsize Tryz.prog 211 = some 1 := by kernel_rfl
theorem zc211 : zeroC Tryz.prog 211 = some [.nilfunc] := by kernel_rfl
theorem tz212 : tsize Tryz.prog 212 = some 1 := by kernel_rfl
theorem zc212 : zeroC Tryz.prog 212 = some [.nilptr] := by kernel_rfl
theorem tz213 : tsize Tryz.prog 213 = some 1 := by kernel_rfl
theorem zc213 : zeroC Tryz.prog 213 = some [.nilfunc] := by kernel_rfl
theorem tz214 : tsize Tryz.prog 214 = some 1 := by kernel_rfl
theorem zc214 : zeroC Tryz.prog 214 = some [.nilfunc] := by kernel_rfl
theorem tz215 : tsize Tryz.prog 215 = some 3 := by kernel_rfl
theorem zc215 : zeroC Tryz.prog 215 = some [.nilsl, .int .i64 0, .int .i64 0] := by kernel_rfl
theorem tz216 : tsize Tryz.prog 216 = some 3 := by kernel_rfl
theorem zc216 : zeroC Tryz.prog 216 = some [.nilsl, .int .i64 0, .int .i64 0] := by kernel_rfl
theorem tz217 : tsize Tryz.prog 217 = some 1 := by kernel_rfl
theorem zc217 : zeroC Tryz.prog 217 = some [.nilfunc] := by kernel_rfl
theorem tz218 : tsize Tryz.prog 218 = some 1 := by kernel_rfl
theorem zc218 : zeroC Tryz.prog 218 = some [.nilfunc] := by kernel_rfl
theorem tz219 : tsize Tryz.prog 219 = some 1 := by kernel_rfl
theorem zc219 : zeroC Tryz.prog 219 = some [.nilfunc] := by kernel_rfl
theorem tz220 : tsize Tryz.prog 220 = some 6 := by kernel_rfl
theorem zc220 : zeroC Tryz.prog 220 = some [.str [], .str [], .int .u32 0, .int .i64 0, .nilptr, .nilptr] := by kernel_rfl
theorem tz221 : tsize Tryz.prog 221 = some 6 := by kernel_rfl
theorem zc221 : zeroC Tryz.prog 221 = some [.str [], .str [], .int .u32 0, .int .i64 0, .nilptr, .nilptr] := by kernel_rfl
theorem tz222 : tsize Tryz.prog 222 = some 1 := by kernel_rfl
theorem zc222 : zeroC Tryz.prog 222 = some [.nilfunc] := by kernel_rfl
theorem tz223 : tsize Tryz.prog 223 = some 1 := by kernel_rfl
theorem zc223 : zeroC Tryz.prog 223 = some [.nilfunc] := by kernel_rfl
theorem tz224 : tsize Tryz.prog 224 = some 1 := by kernel_rfl
theorem zc224 : zeroC Tryz.prog 224 = some [.nilfunc] := by kernel_rfl
theorem tz225 : tsize Tryz.prog 225 = some 1 := by kernel_rfl
theorem zc225 : zeroC Tryz.prog 225 = some [.str []] := by kernel_rfl
theorem tz226 : tsize Tryz.prog 226 = some 1 := by kernel_rfl
theorem zc226 : zeroC Tryz.prog 226 = some [.nilfunc] := by kernel_rfl
theorem tz227 : tsize Tryz.prog 227 = some 1 := by kernel_rfl
theorem zc227 : zeroC Tryz.prog 227 = some [.nilfunc] := by kernel_rfl
theorem tz228 : tsize Tryz.prog 228 = some 1 := by kernel_rfl
theorem zc228 : zeroC Tryz.prog 228 = some [.nilfunc] := by kernel_rfl
theorem tz229 : tsize Tryz.prog 229 = some 1 := by kernel_rfl
theorem zc229 : zeroC Tryz.prog 229 = some [.nilfunc] := by kernel_rfl
theorem tz230 : tsize Tryz.prog 230 = some 1 := by kernel_rfl
theorem zc230 : zeroC Tryz.prog 230 = some [.nilptr] := by kernel_rfl
theorem tz231 : tsize Tryz.prog 231 = some 1 := by kernel_rfl
theorem zc231 : zeroC Tryz.prog 231 = some [.nilfunc] := by kernel_rfl
theorem tz232 : tsize Tryz.prog 232 = some 1 := by kernel_rfl
theorem zc232 : zeroC Tryz.prog 232 = some [.nilfunc] := by kernel_rfl
theorem tz233 : tsize Tryz.prog 233 = some 1 := by kernel_rfl
theorem zc233 : zeroC Tryz.prog 233 = some [.nilfunc] := by kernel_rfl
theorem tz234 : tsize Tryz.prog 234 = some 1 := by kernel_rfl
theorem zc234 : zeroC Tryz.prog 234 = some [.nilsl] := by kernel_rfl
theorem tz235 : tsize Tryz.prog 235 = some 1 := by kernel_rfl
theorem zc235 : zeroC Tryz.prog 235 = some [.nilfunc] := by kernel_rfl
theorem tz236 : tsize Tryz.prog 236 = some 1 := by kernel_rfl
theorem zc236 : zeroC Tryz.prog 236 = some [.nilfunc] := by kernel_rfl
theorem tz237 : tsize Tryz.prog 237 = some 1 := by kernel_rfl
theorem zc237 : zeroC Tryz.prog 237 = some [.nilfunc] := by kernel_rfl
theorem tz238 : tsize Tryz.prog 238 = some 64 := by kernel_rfl
theorem tz239 : tsize Tryz.prog 239 = some 1 := by kernel_rfl
theorem zc239 : zeroC Tryz.prog 239 = some [.nilfunc] := by kernel_rfl
theorem tz240 : tsize Tryz.prog 240 = some 8 := by kernel_rfl
theorem zc240 : zeroC Tryz.prog 240 = some [.int .u32 0, .int .u32 0, .int .u32 0, .int .u32 0, .int .u32 0, .int .u32 0, .int .u32 0, .int .u32 0] := by kernel_rfl
theorem tz241 : tsize Tryz.prog 241 = some 1 := by kernel_rfl
theorem zc241 : zeroC Tryz.prog 241 = some [.nilfunc] := by kernel_rfl
theorem tz242 : tsize Tryz.prog 242 = some 1 := by kernel_rfl
theorem zc242 : zeroC Tryz.prog 242 = some [.nilfunc] := by kernel_rfl
theorem tz243 : tsize Tryz.prog 243 = some 1 := by kernel_rfl
theorem zc243 : zeroC Tryz.prog 243 = some [.nilfunc] := by kernel_rfl
theorem tz244 : tsize Tryz.prog 244 = some 1 := by kernel_rfl
theorem zc244 : zeroC Tryz.prog 244 = some [.nilfunc] := by kernel_rfl
theorem tz245 : tsize Tryz.prog 245 = some 1 := by kernel_rfl
theorem zc245 : zeroC Tryz.prog 245 = some [.nilfunc] := by kernel_rfl
theorem tz246 : tsize Tryz.prog 246 = some 1 := by kernel_rfl
theorem zc246 : zeroC Tryz.prog 246 = some [.nilfunc] := by kernel_rfl
theorem tz247 : tsize Tryz.prog 247 = some 1 := by kernel_rfl
theorem zc247 : zeroC Tryz.prog 247 = some [.nilfunc] := by kernel_rfl
theorem tz248 : tsize Tryz.prog 248 = some 1 := by kernel_rfl
theorem zc248 : zeroC Tryz.prog 248 = some [.nilfunc] := by kernel_rfl
theorem tz249 : tsize Tryz.prog 249 = some 1 := by kernel_rfl
theorem zc249 : zeroC Tryz.prog 249 = some [.nilfunc] := by kernel_rfl
theorem tz250 : tsize Tryz.prog 250 = some 1 := by kernel_rfl
theorem zc250 : zeroC Tryz.prog 250 = some [.nilfunc] := by kernel_rfl
theorem tz251 : tsize Tryz.prog 251 = some 1 := by kernel_rfl
theorem zc251 : zeroC Tryz.prog 251 = some [.nilfunc] := by kernel_rfl
theorem tz252 : tsize Tryz.prog 252 = some 1 := by kernel_rfl
theorem tz253 : tsize Tryz.prog 253 = some 1 := by kernel_rfl
theorem zc253 : zeroC Tryz.prog 253 = some [.nilfunc] := by kernel_rfl
theorem tz254 : tsize Tryz.prog 254 = some 1 := by kernel_rfl
theorem zc254 : zeroC Tryz.prog 254 = some [.nilfunc] := by kernel_rfl
theorem tz255 : tsize Tryz.prog 255 = some 1 := by kernel_rfl
theorem zc255 : zeroC Tryz.prog 255 = some [.nilfunc] := by kernel_rfl
theorem tz256 : tsize Tryz.prog 256 = some 1 := by kernel_rfl
theorem zc256 : zeroC Tryz.prog 256 = some [.nilfunc] := by kernel_rfl
theorem tz257 : tsize Tryz.prog 257 = some 1 := by kernel_rfl
theorem zc257 : zeroC Tryz.prog 257 = some [.nilptr] := by kernel_rfl
theorem tz258 : tsize Tryz.prog 258 = some 1 := by kernel_rfl
theorem zc258 : zeroC Tryz.prog 258 = some [.nilfunc] := by kernel_rfl
theorem tz259 : tsize Tryz.prog 259 = some 1 := by kernel_rfl
theorem zc259 : zeroC Tryz.prog 259 = some [.nilfunc] := by kernel_rfl
theorem tz260 : tsize Tryz.prog 260 = some 1 := by kernel_rfl
theorem tz261 : tsize Tryz.prog 261 = some 1 := by kernel_rfl
theorem zc261 : zeroC Tryz.prog 261 = some [.nilfunc] := by kernel_rfl
theorem tz262 : tsize Tryz.prog 262 = some 1 := by kernel_rfl
theorem zc262 : zeroC Tryz.prog 262 = some [.nilfunc] := by kernel_rfl
theorem tz263 : tsize Tryz.prog 263 = some 1 := by kernel_rfl
theorem zc263 : zeroC Tryz.prog 263 = some [.nilsl] := by kernel_rfl
theorem tz264 : tsize Tryz.prog 264 = some 1 := by kernel_rfl
theorem zc264 : zeroC Tryz.prog 264 = some [.nilfunc] := by kernel_rfl
theorem tz265 : tsize Tryz.prog 265 = some 1 := by kernel_rfl
theorem zc265 : zeroC Tryz.prog 265 = some [.nilfunc] := by kernel_rfl
theorem tz266 : tsize Tryz.prog 266 = some 1 := by kernel_rfl
theorem zc266 : zeroC Tryz.prog 266 = some [.nilfunc] := by kernel_rfl
theorem tz267 : tsize Tryz.prog 267 = some 1 := by kernel_rfl
theorem zc267 : zeroC Tryz.prog 267 = some [.nilfunc] := by kernel_rfl
theorem tz268 : tsize Tryz.prog 268 = some 1 := by kernel_rfl
theorem tz269 : tsize Tryz.prog 269 = some 1 := by kernel_rfl
theorem zc269 : zeroC Tryz.prog 269 = some [.nilfunc] := by kernel_rfl
theorem tz270 : tsize Tryz.prog 270 = some 1 := by kernel_rfl
theorem zc270 : zeroC Tryz.prog 270 = some [.nilfunc] := by kernel_rfl
theorem tz271 : tsize Tryz.prog 271 = some 1 := by kernel_rfl
theorem zc271 : zeroC Tryz.prog 271 = some [.nilfunc] := by kernel_rfl
theorem tz272 : tsize Tryz.prog 272 = some 1 := by kernel_rfl
theorem zc272 : zeroC Tryz.prog 272 = some [.nilfunc] := by kernel_rfl
theorem tz273 : tsize Tryz.prog 273 = some 1 := by kernel_rfl
theorem zc273 : zeroC Tryz.prog 273 = some [.nilfunc] := by kernel_rfl
theorem tz274 : tsize Tryz.prog 274 = some 1 := by kernel_rfl
theorem zc274 : zeroC Tryz.prog 274 = some [.nilptr] := by kernel_rfl
theorem tz275 : tsize Tryz.prog 275 = some 1 := by kernel_rfl
theorem zc275 : zeroC Tryz.prog 275 = some [.nilsl] := by kernel_rfl
theorem tz276 : tsize Tryz.prog 276 = some 1 := by kernel_rfl
theorem zc276 : zeroC Tryz.prog 276 = some [.nilfunc] := by kernel_rfl
theorem tz277 : tsize Tryz.prog 277 = some 1 := by kernel_rfl
theorem zc277 : zeroC Tryz.prog 277 = some [.nilfunc] := by kernel_rfl
theorem tz278 : tsize Tryz.prog 278 = some 1 := by kernel_rfl
theorem zc278 : zeroC Tryz.prog 278 = some [.nilfunc] := by kernel_rfl
theorem tz279 : tsize Tryz.prog 279 = some 1 := by kernel_rfl
theorem zc279 : zeroC Tryz.prog 279 = some [.nilfunc] := by kernel_rfl
theorem tz280 : tsize Tryz.prog 280 = some 1 := by kernel_rfl
theorem zc280 : zeroC Tryz.prog 280 = some [.nilfunc] := by kernel_rfl
theorem tz281 : tsize Tryz.prog 281 = some 1 := by kernel_rfl
theorem zc281 : zeroC Tryz.prog 281 = some [.nilfunc] := by kernel_rfl
theorem tz282 : tsize Tryz.prog 282 = some 1 := by kernel_rfl
theorem zc282 : zeroC Tryz.prog 282 = some [.nilptr] := by kernel_rfl
theorem tz283 : tsize Tryz.prog 283 = some 3 := by kernel_rfl
theorem zc283 : zeroC Tryz.prog 283 = some [.nilsl, .int .i64 0, .bool false] := by kernel_rfl
theorem tz284 : tsize Tryz.prog 284 = some 3 := by kernel_rfl
theorem zc284 : zeroC Tryz.prog 284 = some [.nilsl, .int .i64 0, .bool false] := by kernel_rfl
theorem tz285 : tsize Tryz.prog 285 = some 1 := by kernel_rfl
theorem zc285 : zeroC Tryz.prog 285 = some [.nilptr] := by kernel_rfl
theorem tz286 : tsize Tryz.prog 286 = some 1 := by kernel_rfl
theorem zc286 : zeroC Tryz.prog 286 = some [.nilptr] := by kernel_rfl
theorem tz287 : tsize Tryz.prog 287 = some 1 := by kernel_rfl
theorem zc287 : zeroC Tryz.prog 287 = some [.nilfunc] := by kernel_rfl
theorem tz288 : tsize Tryz.prog 288 = some 1 := by kernel_rfl
theorem zc288 : zeroC Tryz.prog 288 = some [.nilfunc] := by kernel_rfl
theorem tz289 : tsize Tryz.prog 289 = some 1 := by kernel_rfl
theorem zc289 : zeroC Tryz.prog 289 = some [.nilfunc] := by kernel_rfl
theorem tz290 : tsize Tryz.prog 290 = some 1 := by kernel_rfl
theorem zc290 : zeroC Tryz.prog 290 = some [.nilfunc] := by kernel_rfl
theorem tz291 : tsize Tryz.prog 291 = some 1 := by kernel_rfl
theorem zc291 : zeroC Tryz.prog 291 = some [.nilfunc] := by kernel_rfl
theorem tz292 : tsize Tryz.prog 292 = some 1 := by kernel_rfl
theorem zc292 : zeroC Tryz.prog 292 = some [.nilfunc] := by kernel_rfl
theorem tz293 : tsize Tryz.prog 293 = some 1 := by kernel_rfl
theorem zc293 : zeroC Tryz.prog 293 = some [.nilfunc] := by kernel_rfl
theorem tz294 : tsize Tryz.prog 294 = some 1 := by kernel_rfl
theorem zc294 : zeroC Tryz.prog 294 = some [.int .i64 0] := by kernel_rfl
theorem tz295 : tsize Tryz.prog 295 = some 1 := by kernel_rfl
theorem tz296 : tsize Tryz.prog 296 = some 1 := by kernel_rfl
theorem zc296 : zeroC Tryz.prog 296 = some [.nilfunc] := by kernel_rfl
theorem tz297 : tsize Tryz.prog 297 = some 1 := by kernel_rfl
theorem zc297 : zeroC Tryz.prog 297 = some [.nilfunc] := by kernel_rfl
theorem tz298 : tsize Tryz.prog 298 = some 1 := by kernel_rfl
theorem tz299 : tsize Tryz.prog 299 = some 1 := by kernel_rfl
theorem zc299 : zeroC Tryz.prog 299 = some [.nilfunc] := by kernel_rfl
theorem tz300 : tsize Tryz.prog 300 = some 1 := by kernel_rfl
theorem zc300 : zeroC Tryz.prog 300 = some [.nilfunc] := by kernel_rfl
theorem tz301 : tsize Tryz.prog 301 = some 1 := by kernel_rfl
theorem zc301 : zeroC Tryz.prog 301 = some [.nilfunc] := by kernel_rfl
theorem tz302 : tsize Tryz.prog 302 = some 1 := by kernel_rfl
theorem zc302 : zeroC Tryz.prog 302 = some [.nilfunc] := by kernel_rfl
theorem tz303 : tsize Tryz.prog 303 = some 1 := by kernel_rfl
theorem tz304 : tsize Tryz.prog 304 = some 1 := by kernel_rfl
theorem zc304 : zeroC Tryz.prog 304 = some [.nilfunc] := by kernel_rfl
theorem tz305 : tsize Tryz.prog 305 = some 1 := by kernel_rfl
theorem zc305 : zeroC Tryz.prog 305 = some [.nilfunc] := by kernel_rfl
theorem tz306 : tsize Tryz.prog 306 = some 1 := by kernel_rfl
theorem zc306 : zeroC Tryz.prog 306 = some [.nilfunc] := by kernel_rfl
theorem tz307 : tsize Tryz.prog 307 = some 1 := by kernel_rfl
theorem zc307 : zeroC Tryz.prog 307 = some [.nilfunc] := by kernel_rfl
theorem tz308 : tsize Tryz.prog 308 = some 1 := by kernel_rfl
theorem zc308 : zeroC Tryz.prog 308 = some [.nilfunc] := by kernel_rfl
theorem tz309 : tsize Tryz.prog 309 = some 1 := by kernel_rfl
theorem zc309 : zeroC Tryz.prog 309 = some [.nilfunc] := by kernel_rfl
theorem tz310 : tsize Tryz.prog 310 = some 1 := by kernel_rfl
theorem zc310 : zeroC Tryz.prog 310 = some [.nilfunc] := by kernel_rfl
theorem tz311 : tsize Tryz.prog 311 = some 1 := by kernel_rfl
theorem zc311 : zeroC Tryz.prog 311 = some [.int .u64 0] := by kernel_rfl
theorem tz312 : tsize Tryz.prog 312 = some 1 := by kernel_rfl
theorem zc312 : zeroC Tryz.prog 312 = some [.nilfunc] := by kernel_rfl
theorem tz313 : tsize Tryz.prog 313 = some 1 := by kernel_rfl
theorem zc313 : zeroC Tryz.prog 313 = some [.nilfunc] := by kernel_rfl
theorem tz314 : tsize Tryz.prog 314 = some 1 := by kernel_rfl
theorem zc314 : zeroC Tryz.prog 314 = some [.nilptr] := by kernel_rfl
theorem tz315 : tsize Tryz.prog 315 = some 1 := by kernel_rfl
theorem zc315 : zeroC Tryz.prog 315 = some [.nilfunc] := by kernel_rfl
theorem tz316 : tsize Tryz.prog 316 = some 1 := by kernel_rfl
theorem zc316 : zeroC Tryz.prog 316 = some [.nilfunc] := by kernel_rfl
theorem tz317 : tsize Tryz.prog 317 = some 1 := by kernel_rfl
theorem zc317 : zeroC Tryz.prog 317 = some [.nilfunc] := by kernel_rfl
theorem tz318 : tsize Tryz.prog 318 = some 1 := by kernel_rfl
theorem tz319 : tsize Tryz.prog 319 = some 1 := by kernel_rfl
theorem zc319 : zeroC Tryz.prog 319 = some [.nilfunc] := by kernel_rfl
theorem tz320 : tsize Tryz.prog 320 = some 1 := by kernel_rfl
theorem zc320 : zeroC Tryz.prog 320 = some [.nilfunc] := by kernel_rfl
theorem tz321 : tsize Tryz.prog 321 = some 1 := by kernel_rfl
theorem zc321 : zeroC Tryz.prog 321 = some [.nilptr] := by kernel_rfl
theorem tz322 : tsize Tryz.prog 322 = some 1 := by kernel_rfl
theorem zc322 : zeroC Tryz.prog 322 = some [.nilfunc] := by kernel_rfl
theorem tz323 : tsize Tryz.prog 323 = some 1 := by kernel_rfl
theorem zc323 : zeroC Tryz.prog 323 = some [.nilfunc] := by kernel_rfl
theorem tz324 : tsize Tryz.prog 324 = some 256 := by kernel_rfl
theorem tz325 : tsize Tryz.prog 325 = some 2 := by kernel_rfl
theorem zc325 : zeroC Tryz.prog 325 = some [.int .u8 0, .int .u8 0] := by kernel_rfl
theorem tz326 : tsize Tryz.prog 326 = some 2 := by kernel_rfl
theorem zc326 : zeroC Tryz.prog 326 = some [.int .u8 0, .int .u8 0] := by kernel_rfl
theorem tz327 : tsize Tryz.prog 327 = some 32 := by kernel_rfl
theorem tz328 : tsize Tryz.prog 328 = some 1 := by kernel_rfl
theorem tz329 : tsize Tryz.prog 329 = some 1 := by kernel_rfl
theorem zc329 : zeroC Tryz.prog 329 = some [.nilfunc] := by kernel_rfl
theorem tz330 : tsize Tryz.prog 330 = some 4 := by kernel_rfl
theorem zc330 : zeroC Tryz.prog 330 = some [.nilptr, .nilptr, .nilptr, .str []] := by kernel_rfl
theorem tz331 : tsize Tryz.prog 331 = some 4 := by kernel_rfl
theorem zc331 : zeroC Tryz.prog 331 = some [.nilptr, .nilptr, .nilptr, .str []] := by kernel_rfl
theorem tz332 : tsize Tryz.prog 332 = some 0 := by kernel_rfl
theorem zc332 : zeroC Tryz.prog 332 = some [] := by kernel_rfl
theorem tz333 : tsize Tryz.prog 333 = some 0 := by kernel_rfl
theorem zc333 : zeroC Tryz.prog 333 = some [] := by kernel_rfl
theorem tz334 : tsize Tryz.prog 334 = some 0 := by kernel_rfl
theorem zc334 : zeroC Tryz.prog 334 = some [] := by kernel_rfl
theorem tz335 : tsize Tryz.prog 335 = some 1 := by kernel_rfl
theorem zc335 : zeroC Tryz.prog 335 = some [.int .u8 0] := by kernel_rfl
theorem tz336 : tsize Tryz.prog 336 = some 1 := by kernel_rfl
theorem zc336 : zeroC Tryz.prog 336 = some [.int .u8 0] := by kernel_rfl
theorem tz337 : tsize Tryz.prog 337 = some 1 := by kernel_rfl
theorem zc337 : zeroC Tryz.prog 337 = some [.nilfunc] := by kernel_rfl
theorem tz338 : tsize Tryz.prog 338 = some 1 := by kernel_rfl
theorem zc338 : zeroC Tryz.prog 338 = some [.nilptr] := by kernel_rfl
theorem tz339 : tsize Tryz.prog 339 = some 1 := by kernel_rfl
theorem zc339 : zeroC Tryz.prog 339 = some [.int .i32 0] := by kernel_rfl
theorem tz340 : tsize Tryz.prog 340 = some 1 := by kernel_rfl
theorem zc340 : zeroC Tryz.prog 340 = some [.int .i32 0] := by kernel_rfl
theorem tz341 : tsize Tryz.prog 341 = some 11 := by kernel_rfl
theorem zc341 : zeroC Tryz.prog 341 = some [.int .u64 0, .int .u64 0, .int .u32 0, .int .u8 0, .int .u8 0, .int .u8 0, .int .u8 0, .nilfunc, .nilptr, .int .i32 0, .int .i32 0] := by kernel_rfl
theorem tz342 : tsize Tryz.prog 342 = some 11 := by kernel_rfl
theorem zc342 : zeroC Tryz.prog 342 = some [.int .u64 0, .int .u64 0, .int .u32 0, .int .u8 0, .int .u8 0, .int .u8 0, .int .u8 0, .nilfunc, .nilptr, .int .i32 0, .int .i32 0] := by kernel_rfl
theorem tz343 : tsize Tryz.prog 343 = some 1 := by kernel_rfl
theorem zc343 : zeroC Tryz.prog 343 = some [.nilptr] := by kernel_rfl
attribute [go_sem] tz0 tz1 tz2 tz3 tz4 tz5 tz6 tz7 tz8 tz9 tz10 tz11 tz12 tz13 tz14 tz15 tz16 tz17 tz18 tz19 tz20 tz21 tz22 tz23 tz24 tz25 tz26 tz27 tz28 tz29 tz30 tz31 tz32 tz33 tz34 tz35 tz36 tz37 tz38 tz39 tz40 tz41 tz42 tz43 tz44 tz45 tz46 tz47 tz48 tz49 tz50 tz51 tz52 tz53 tz54 tz55 tz56 tz57 tz58 tz59 tz60 tz61 tz62 tz63 tz64 tz65 tz66 tz67 tz68 tz69 tz70 tz71 tz72 tz73 tz74 tz75 tz76 tz77 tz78 tz79 tz80 tz81 tz82 tz83 tz84 tz85 tz86 tz87 tz88 tz89 tz90 tz91 tz92 tz93 tz94 tz95 tz96 tz97 tz98 tz99 tz100 tz101 tz102 tz103 tz104 tz105 tz106 tz107 tz108 tz109 tz110 tz111 tz112 tz113 tz114 tz115 tz116 tz117 tz118 tz119 tz120 tz121 tz122 tz123 tz124 tz125 tz126 tz127 tz128 tz129 tz130 tz131 tz132 tz133 tz134 tz135 tz136 tz137 tz138 tz139 tz140 tz141 tz142 tz143 tz144 tz145 tz146 tz147 tz148 tz149 tz150 tz151 tz152 tz153 tz154 tz155 tz156 tz157 tz158 tz159 tz160 tz161 tz162 tz163 tz164 tz165 tz166 tz167 tz168 tz169 tz170 tz171 tz172 tz173 tz174 tz175 tz176 tz177 tz178 tz179 tz180 tz181 tz182 tz183 tz184 tz185 tz186 tz187 tz188 tz189 tz190 tz191 tz192 tz193 tz194 tz195 tz196 tz197 tz198 tz199 tz200 tz201 tz202 tz203 tz204 tz205 tz206 tz207 tz208 tz209 tz210 tz211 tz212 tz213 tz214 tz215 tz216 tz217 tz218 tz219 tz220 tz221 tz222 tz223 tz224 tz225 tz226 tz227 tz228 tz229 tz230 tz231 tz232 tz233 tz234 tz235 tz236 tz237 tz238 tz239 tz240 tz241 tz242 tz243 tz244 tz245 tz246 tz247 tz248 tz249 tz250 tz251 tz252 tz253 tz254 tz255 tz256 tz257 tz258 tz259 tz260 tz261 tz262 tz263 tz264 tz265 tz266 tz267 tz268 tz269 tz270 tz271 tz272 tz273 tz274 tz275 tz276 tz277 tz278 tz279 tz280 tz281 tz282 tz283 tz284 tz285 tz286 tz287 tz288 tz289 tz290 tz291 tz292 tz293 tz294 tz295 tz296 tz297 tz298 tz299 tz300 tz301 tz302 tz303 tz304 tz305 tz306 tz307 tz308 tz309 tz310 tz311 tz312 tz313 tz314 tz315 tz316 tz317 tz318 tz319 tz320 tz321 tz322 tz323 tz324 tz325 tz326 tz327 tz328 tz329 tz330 tz331 tz332 tz333 tz334 tz335 tz336 tz337 tz338 tz339 tz340 tz341 tz342 tz343 zc1 zc2 zc3 zc4 zc5 zc6 zc7 zc8 zc9 zc10 zc11 zc12 zc13 zc14 zc15 zc16 zc17 zc18 zc19 zc20 zc21 zc22 zc23 zc24 zc25 zc27 zc28 zc30 zc31 zc32 zc33 zc34 zc35 zc36 zc37 zc39 zc40 zc41 zc42 zc43 zc44 zc45 zc46 zc47 zc48 zc50 zc52 zc54 zc55 zc56 zc57 zc58 zc59 zc61 zc62 zc63 zc64 zc65 zc66 zc67 zc69 zc70 zc71 zc73 zc74 zc75 zc76 zc77 zc78 zc79 zc81 zc82 zc83 zc84 zc85 zc86 zc87 zc88 zc89 zc90 zc91 zc92 zc93 zc95 zc96 zc97 zc98 zc99 zc100 zc101 zc102 zc103 zc104 zc105 zc106 zc107 zc108 zc109 zc111 zc113 zc114 zc115 zc116 zc117 zc118 zc119 zc121 zc122 zc123 zc124 zc125 zc126 zc127 zc128 zc129 zc130 zc132 zc133 zc134 zc135 zc136 zc137 zc139 zc140 zc141 zc142 zc143 zc144 zc145 zc146 zc147 zc148 zc149 zc150 zc151 zc152 zc153 zc154 zc155 zc156 zc157 zc158 zc159 zc160 zc161 zc162 zc163 zc164 zc165 zc166 zc167 zc168 zc169 zc171 zc172 zc173 zc174 zc177 zc178 zc179 zc180 zc181 zc182 zc183 zc184 zc185 zc186 zc187 zc188 zc189 zc190 zc191 zc192 zc193 zc194 zc195 zc196 zc197 zc198 zc199 zc200 zc201 zc202 zc203 zc204 zc205 zc206 zc207 zc208 zc210 zc211 zc212 zc213 zc214 zc215 zc216 zc217 zc218 zc219 zc220 zc221 zc222 zc223 zc224 zc225 zc226 zc227 zc228 zc229 zc230 zc231 zc232 zc233 zc234 zc235 zc236 zc237 zc239 zc240 zc241 zc242 zc243 zc244 zc245 zc246 zc247 zc248 zc249 zc250 zc251 zc253 zc254 zc255 zc256 zc257 zc258 zc259 zc261 zc262 zc263 zc264 zc265 zc266 zc267 zc269 zc270 zc271 zc272 zc273 zc274 zc275 zc276 zc277 zc278 zc279 zc280 zc281 zc282 zc283 zc284 zc285 zc286 zc287 zc288 zc289 zc290 zc291 zc292 zc293 zc294 zc296 zc297 zc299 zc300 zc301 zc302 zc304 zc305 zc306 zc307 zc308 zc309 zc310 zc311 zc312 zc313 zc314 zc315 zc316 zc317 zc319 zc320 zc321 zc322 zc323 zc325 zc326 zc329 zc330 zc331 zc332 zc333 zc334 zc335 zc336 zc337 zc338 zc339 zc340 zc341 zc342 zc343 Tryz.underlying0 Tryz.underlying1 Tryz.underlying2 Tryz.underlying3 Tryz.underlying4 Tryz.underlying5 Tryz.underlying6 Tryz.underlying7 Tryz.underlying8 Tryz.underlying9 Tryz.underlying10 Tryz.underlying11 Tryz.underlying12 Tryz.underlying13 Tryz.underlying14 Tryz.underlying15 Tryz.underlying16 Tryz.underlying17 Tryz.underlying18 Tryz.underlying19 Tryz.underlying20 Tryz.underlying21 Tryz.underlying22 Tryz.underlying23 Tryz.underlying24 Tryz.underlying25 Tryz.underlying26 Tryz.underlying27 Tryz.underlying28 Tryz.underlying29 Tryz.underlying30 Tryz.underlying31 Tryz.underlying32 Tryz.underlying33 Tryz.underlying34 Tryz.underlying35 Tryz.underlying36 Tryz.underlying37 Tryz.underlying38 Tryz.underlying39 Tryz.underlying40 Tryz.underlying41 Tryz.underlying42 Tryz.underlying43 Tryz.underlying44 Tryz.underlying45 Tryz.underlying46 Tryz.underlying47 Tryz.underlying48 Tryz.underlying49 Tryz.underlying50 Tryz.underlying51 Tryz.underlying52 Tryz.underlying53 Tryz.underlying54 Tryz.underlying55 Tryz.underlying56 Tryz.underlying57 Tryz.underlying58 Tryz.underlying59 Tryz.underlying60 Tryz.underlying61 Tryz.underlying62 Tryz.underlying63 Tryz.underlying64 Tryz.underlying65 Tryz.underlying66 Tryz.underlying67 Tryz.underlying68 Tryz.underlying69 Tryz.underlying70 Tryz.underlying71 Tryz.underlying72 Tryz.underlying73 Tryz.underlying74 Tryz.underlying75 Tryz.underlying76 Tryz.underlying77 Tryz.underlying78 Tryz.underlying79 Tryz.underlying80 Tryz.underlying81 Tryz.underlying82 Tryz.underlying83 Tryz.underlying84 Tryz.underlying85 Tryz.underlying86 Tryz.underlying87 Tryz.underlying88 Tryz.underlying89 Tryz.underlying90 Tryz.underlying91 Tryz.underlying92 Tryz.underlying93 Tryz.underlying94 Tryz.underlying95 Tryz.underlying96 Tryz.underlying97 Tryz.underlying98 Tryz.underlying99 Tryz.underlying100 Tryz.underlying101 Tryz.underlying102 Tryz.underlying103 Tryz.underlying104 Tryz.underlying105 Tryz.underlying106 Tryz.underlying107 Tryz.underlying108 Tryz.underlying109 Tryz.underlying110 Tryz.underlying111 Tryz.underlying112 Tryz.underlying113 Tryz.underlying114 Tryz.underlying115 Tryz.underlying116 Tryz.underlying117 Tryz.underlying118 Tryz.underlying119 Tryz.underlying120 Tryz.underlying121 Tryz.underlying122 Tryz.underlying123 Tryz.underlying124 Tryz.underlying125 Tryz.underlying126 Tryz.underlying127 Tryz.underlying128 Tryz.underlying129 Tryz.underlying130 Tryz.underlying131 Tryz.underlying132 Tryz.underlying133 Tryz.underlying134 Tryz.underlying135 Tryz.underlying136 Tryz.underlying137 Tryz.underlying138 Tryz.underlying139 Tryz.underlying140 Tryz.underlying141 Tryz.underlying142 Tryz.underlying143 Tryz.underlying144 Tryz.underlying145 Tryz.underlying146 Tryz.underlying147 Tryz.underlying148 Tryz.underlying149 Tryz.underlying150 Tryz.underlying151 Tryz.underlying152 Tryz.underlying153 Tryz.underlying154 Tryz.underlying155 Tryz.underlying156 Tryz.underlying157 Tryz.underlying158 Tryz.underlying159 Tryz.underlying160 Tryz.underlying161 Tryz.underlying162 Tryz.underlying163 Tryz.underlying164 Tryz.underlying165 Tryz.underlying166 Tryz.underlying167 Tryz.underlying168 Tryz.underlying169 Tryz.underlying170 Tryz.underlying171 Tryz.underlying172 Tryz.underlying173 Tryz.underlying174 Tryz.underlying175 Tryz.underlying176 Tryz.underlying177 Tryz.underlying178 Tryz.underlying179 Tryz.underlying180 Tryz.underlying181 Tryz.underlying182 Tryz.underlying183 Tryz.underlying184 Tryz.underlying185 Tryz.underlying186 Tryz.underlying187 Tryz.underlying188 Tryz.underlying189 Tryz.underlying190 Tryz.underlying191 Tryz.underlying192 Tryz.underlying193 Tryz.underlying194 Tryz.underlying195 Tryz.underlying196 Tryz.underlying197 Tryz.underlying198 Tryz.underlying199 Tryz.underlying200 Tryz.underlying201 Tryz.underlying202 Tryz.underlying203 Tryz.underlying204 Tryz.underlying205 Tryz.underlying206 Tryz.underlying207 Tryz.underlying208 Tryz.underlying209 Tryz.underlying210 Tryz.underlying211 Tryz.underlying212 Tryz.underlying213 Tryz.underlying214 Tryz.underlying215 Tryz.underlying216 Tryz.underlying217 Tryz.underlying218 Tryz.underlying219 Tryz.underlying220 Tryz.underlying221 Tryz.underlying222 Tryz.underlying223 Tryz.underlying224 Tryz.underlying225 Tryz.underlying226 Tryz.underlying227 Tryz.underlying228 Tryz.underlying229 Tryz.underlying230 Tryz.underlying231 Tryz.underlying232 Tryz.underlying233 Tryz.underlying234 Tryz.underlying235 Tryz.underlying236 Tryz.underlying237 Tryz.underlying238 Tryz.underlying239 Tryz.underlying240 Tryz.underlying241 Tryz.underlying242 Tryz.underlying243 Tryz.underlying244 Tryz.underlying245 Tryz.underlying246 Tryz.underlying247 Tryz.underlying248 Tryz.underlying249 Tryz.underlying250 Tryz.underlying251 Tryz.underlying252 Tryz.underlying253 Tryz.underlying254 Tryz.underlying255 Tryz.underlying256 Tryz.underlying257 Tryz.underlying258 Tryz.underlying259 Tryz.underlying260 Tryz.underlying261 Tryz.underlying262 Tryz.underlying263 Tryz.underlying264 Tryz.underlying265 Tryz.underlying266 Tryz.underlying267 Tryz.underlying268 Tryz.underlying269 Tryz.underlying270 Tryz.underlying271 Tryz.underlying272 Tryz.underlying273 Tryz.underlying274 Tryz.underlying275 Tryz.underlying276 Tryz.underlying277 Tryz.underlying278 Tryz.underlying279 Tryz.underlying280 Tryz.underlying281 Tryz.underlying282 Tryz.underlying283 Tryz.underlying284 Tryz.underlying285 Tryz.underlying286 Tryz.underlying287 Tryz.underlying288 Tryz.underlying289 Tryz.underlying290 Tryz.underlying291 Tryz.underlying292 Tryz.underlying293 Tryz.underlying294 Tryz.underlying295 Tryz.underlying296 Tryz.underlying297 Tryz.underlying298 Tryz.underlying299 Tryz.underlying300 Tryz.underlying301 Tryz.underlying302 Tryz.underlying303 Tryz.underlying304 Tryz.underlying305 Tryz.underlying306 Tryz.underlying307 Tryz.underlying308 Tryz.underlying309 Tryz.underlying310 Tryz.underlying311 Tryz.underlying312 Tryz.underlying313 Tryz.underlying314 Tryz.underlying315 Tryz.underlying316 Tryz.underlying317 Tryz.underlying318 Tryz.underlying319 Tryz.underlying320 Tryz.underlying321 Tryz.underlying322 Tryz.underlying323 Tryz.underlying324 Tryz.underlying325 Tryz.underlying326 Tryz.underlying327 Tryz.underlying328 Tryz.underlying329 Tryz.underlying330 Tryz.underlying331 Tryz.underlying332 Tryz.underlying333 Tryz.underlying334 Tryz.underlying335 Tryz.underlying336 Tryz.underlying337 Tryz.underlying338 Tryz.underlying339 Tryz.underlying340 Tryz.underlying341 Tryz.underlying342 Tryz.underlying343
theorem bd2 : bodied Tryz.prog 2 = true := by kernel_rfl
theorem bd3 : bodied Tryz.prog 3 = true := by kernel_rfl
theorem bd4 : bodied Tryz.prog 4 = true := by kernel_rfl
theorem bd5 : bodied Tryz.prog 5 = true := by kernel_rfl
theorem bd6 : bodied Tryz.prog 6 = true := by kernel_rfl
theorem bd7 : bodied Tryz.prog 7 = true := by kernel_rfl
theorem bd8 : bodied Tryz.prog 8 = true := by kernel_rfl
theorem bd9 : bodied Tryz.prog 9 = true := by kernel_rfl
theorem bd10 : bodied Tryz.prog 10 = true := by kernel_rfl
theorem bd11 : bodied Tryz.prog 11 = true := by kernel_rfl
theorem bd12 : bodied Tryz.prog 12 = true := by kernel_rfl
theorem bd13 : bodied Tryz.prog 13 = true := by kernel_rfl
theorem bd14 : bodied Tryz.prog 14 = true := by kernel_rfl
theorem bd15 : bodied Tryz.prog 15 = true := by kernel_rfl
theorem bd16 : bodied Tryz.prog 16 = true := by kernel_rfl
theorem bd17 : bodied Tryz.prog 17 = true := by kernel_rfl
theorem bd18 : bodied Tryz.prog 18 = true := by kernel_rfl
theorem bd19 : bodied Tryz.prog 19 = true := by kernel_rfl
theorem bd20 : bodied Tryz.prog 20 = true := by kernel_rfl
theorem bd21 : bodied Tryz.prog 21 = true := by kernel_rfl
theorem bd22 : bodied Tryz.prog 22 = true := by kernel_rfl
theorem bd23 : bodied Tryz.prog 23 = true := by kernel_rfl
theorem bd24 : bodied Tryz.prog 24 = true := by kernel_rfl
theorem bd25 : bodied Tryz.prog 25 = true := by kernel_rfl
theorem bd26 : bodied Tryz.prog 26 = true := by kernel_rfl
theorem bd27 : bodied Tryz.prog 27 = true := by kernel_rfl
theorem bd28 : bodied Tryz.prog 28 = true := by kernel_rfl
theorem bd29 : bodied Tryz.prog 29 = true := by kernel_rfl
theorem bd30 : bodied Tryz.prog 30 = true := by kernel_rfl
theorem bd31 : bodied Tryz.prog 31 = true := by kernel_rfl
theorem bd32 : bodied Tryz.prog 32 = true := by kernel_rfl
theorem bd33 : bodied Tryz.prog 33 = true := by kernel_rfl
theorem bd34 : bodied Tryz.prog 34 = true := by kernel_rfl
theorem bd35 : bodied Tryz.prog 35 = true := by kernel_rfl
theorem bd36 : bodied Tryz.prog 36 = true := by kernel_rfl
theorem bd37 : bodied Tryz.prog 37 = true := by kernel_rfl
theorem bd38 : bodied Tryz.prog 38 = true := by kernel_rfl
theorem bd39 : bodied Tryz.prog 39 = true := by kernel_rfl
theorem bd40 : bodied Tryz.prog 40 = true := by kernel_rfl
theorem bd41 : bodied Tryz.prog 41 = true := by kernel_rfl
theorem bd42 : bodied Tryz.prog 42 = true := by kernel_rfl
theorem bd43 : bodied Tryz.prog 43 = true := by kernel_rfl
theorem bd44 : bodied Tryz.prog 44 = true := by kernel_rfl
theorem bd45 : bodied Tryz.prog 45 = true := by kernel_rfl
theorem bd46 : bodied Tryz.prog 46 = true := by kernel_rfl
theorem bd47 : bodied Tryz.prog 47 = true := by kernel_rfl
theorem bd48 : bodied Tryz.prog 48 = true := by kernel_rfl
theorem bd49 : bodied Tryz.prog 49 = true := by kernel_rfl
theorem bd50 : bodied Tryz.prog 50 = true := by kernel_rfl
theorem bd51 : bodied Tryz.prog 51 = true := by kernel_rfl
theorem bd52 : bodied Tryz.prog 52 = true := by kernel_rfl
theorem bd53 : bodied Tryz.prog 53 = true := by kernel_rfl
theorem bd54 : bodied Tryz.prog 54 = true := by kernel_rfl
theorem bd55 : bodied Tryz.prog 55 = true := by kernel_rfl
theorem bd56 : bodied Tryz.prog 56 = true := by kernel_rfl
theorem bd57 : bodied Tryz.prog 57 = true := by kernel_rfl
theorem bd58 : bodied Tryz.prog 58 = true := by kernel_rfl
theorem bd59 : bodied Tryz.prog 59 = true := by kernel_rfl
theorem bd60 : bodied Tryz.prog 60 = true := by kernel_rfl
theorem bd61 : bodied Tryz.prog 61 = true := by kernel_rfl
theorem bd62 : bodied Tryz.prog 62 = true := by kernel_rfl
theorem bd63 : bodied Tryz.prog 63 = true := by kernel_rfl
theorem bd64 : bodied Tryz.prog 64 = true := by kernel_rfl
theorem bd65 : bodied Tryz.prog 65 = true := by kernel_rfl
theorem bd66 : bodied Tryz.prog 66 = true := by kernel_rfl
theorem bd67 : bodied Tryz.prog 67 = true := by kernel_rfl
theorem bd68 : bodied Tryz.prog 68 = true := by kernel_rfl
theorem bd69 : bodied Tryz.prog 69 = true := by kernel_rfl
theorem bd70 : bodied Tryz.prog 70 = true := by kernel_rfl
theorem bd71 : bodied Tryz.prog 71 = true := by kernel_rfl
theorem bd72 : bodied Tryz.prog 72 = true := by kernel_rfl
theorem bd73 : bodied Tryz.prog 73 = true := by kernel_rfl
theorem bd74 : bodied Tryz.prog 74 = true := by kernel_rfl
theorem bd75 : bodied Tryz.prog 75 = true := by kernel_rfl
theorem bd76 : bodied Tryz.prog 76 = true := by kernel_rfl
theorem bd77 : bodied Tryz.prog 77 = true := by kernel_rfl
theorem bd78 : bodied Tryz.prog 78 = true := by kernel_rfl
theorem bd79 : bodied Tryz.prog 79 = true := by kernel_rfl
theorem bd80 : bodied Tryz.prog 80 = true := by kernel_rfl
theorem bd81 : bodied Tryz.prog 81 = true := by kernel_rfl
theorem bd82 : bodied Tryz.prog 82 = true := by kernel_rfl
theorem bd83 : bodied Tryz.prog 83 = true := by kernel_rfl
theorem bd84 : bodied Tryz.prog 84 = true := by kernel_rfl
theorem bd85 : bodied Tryz.prog 85 = true := by kernel_rfl
theorem bd86 : bodied Tryz.prog 86 = true := by kernel_rfl
theorem bd87 : bodied Tryz.prog 87 = true := by kernel_rfl
theorem bd88 : bodied Tryz.prog 88 = true := by kernel_rfl
theorem bd89 : bodied Tryz.prog 89 = true := by kernel_rfl
theorem bd90 : bodied Tryz.prog 90 = true := by kernel_rfl
theorem bd91 : bodied Tryz.prog 91 = true := by kernel_rfl
theorem bd92 : bodied Tryz.prog 92 = true := by kernel_rfl
theorem bd93 : bodied Tryz.prog 93 = true := by kernel_rfl
theorem bd94 : bodied Tryz.prog 94 = true := by kernel_rfl
theorem bd95 : bodied Tryz.prog 95 = true := by kernel_rfl
theorem bd96 : bodied Tryz.prog 96 = true := by kernel_rfl
theorem bd97 : bodied Tryz.prog 97 = true := by kernel_rfl
theorem bd98 : bodied Tryz.prog 98 = true := by kernel_rfl
theorem bd99 : bodied Tryz.prog 99 = true := by kernel_rfl
theorem bd100 : bodied Tryz.prog 100 = true := by kernel_rfl
theorem bd101 : bodied Tryz.prog 101 = true := by kernel_rfl
theorem bd102 : bodied Tryz.prog 102 = true := by kernel_rfl
theorem bd103 : bodied Tryz.prog 103 = true := by kernel_rfl
theorem bd104 : bodied Tryz.prog 104 = true := by kernel_rfl
theorem bd105 : bodied Tryz.prog 105 = true := by kernel_rfl
theorem bd106 : bodied Tryz.prog 106 = true := by kernel_rfl
theorem bd107 : bodied Tryz.prog 107 = true := by kernel_rfl
theorem bd108 : bodied Tryz.prog 108 = true := by kernel_rfl
theorem bd109 : bodied Tryz.prog 109 = true := by kernel_rfl
theorem bd110 : bodied Tryz.prog 110 = true := by kernel_rfl
theorem bd111 : bodied Tryz.prog 111 = true := by kernel_rfl
theorem bd112 : bodied Tryz.prog 112 = true := by kernel_rfl
theorem bd113 : bodied Tryz.prog 113 = true := by kernel_rfl
theorem bd114 : bodied Tryz.prog 114 = true := by kernel_rfl
theorem bd115 : bodied Tryz.prog 115 = true := by kernel_rfl
theorem bd116 : bodied Tryz.prog 116 = true := by kernel_rfl
theorem bd117 : bodied Tryz.prog 117 = true := by kernel_rfl
theorem bd118 : bodied Tryz.prog 118 = true := by kernel_rfl
theorem bd119 : bodied Tryz.prog 119 = true := by kernel_rfl
theorem bd120 : bodied Tryz.prog 120 = true := by kernel_rfl
theorem bd121 : bodied Tryz.prog 121 = true := by kernel_rfl
theorem bd122 : bodied Tryz.prog 122 = true := by kernel_rfl
theorem bd123 : bodied Tryz.prog 123 = true := by kernel_rfl
theorem bd124 : bodied Tryz.prog 124 = true := by kernel_rfl
theorem bd125 : bodied Tryz.prog 125 = true := by kernel_rfl
theorem bd126 : bodied Tryz.prog 126 = true := by kernel_rfl
theorem bd127 : bodied Tryz.prog 127 = true := by kernel_rfl
theorem bd128 : bodied Tryz.prog 128 = true := by kernel_rfl
theorem bd129 : bodied Tryz.prog 129 = true := by kernel_rfl
theorem bd130 : bodied Tryz.prog 130 = true := by kernel_rfl
theorem bd131 : bodied Tryz.prog 131 = true := by kernel_rfl
theorem bd132 : bodied Tryz.prog 132 = true := by kernel_rfl
theorem bd133 : bodied Tryz.prog 133 = true := by kernel_rfl
theorem bd134 : bodied Tryz.prog 134 = true := by kernel_rfl
theorem bd135 : bodied Tryz.prog 135 = true := by kernel_rfl
theorem bd136 : bodied Tryz.prog 136 = true := by kernel_rfl
theorem bd137 : bodied Tryz.prog 137 = true := by kernel_rfl
theorem bd138 : bodied Tryz.prog 138 = true := by kernel_rfl
theorem bd139 : bodied Tryz.prog 139 = true := by kernel_rfl
theorem bd140 : bodied Tryz.prog 140 = true := by kernel_rfl
theorem bd141 : bodied Tryz.prog 141 = true := by kernel_rfl
theorem bd142 : bodied Tryz.prog 142 = true := by kernel_rfl
theorem bd143 : bodied Tryz.prog 143 = true := by kernel_rfl
theorem bd144 : bodied Tryz.prog 144 = true := by kernel_rfl
theorem bd145 : bodied Tryz.prog 145 = true := by kernel_rfl
theorem bd146 : bodied Tryz.prog 146 = true := by kernel_rfl
theorem bd147 : bodied Tryz.prog 147 = true := by kernel_rfl
theorem bd148 : bodied Tryz.prog 148 = true := by kernel_rfl
theorem bd149 : bodied Tryz.prog 149 = true := by kernel_rfl
theorem bd150 : bodied Tryz.prog 150 = true := by kernel_rfl
theorem bd151 : bodied Tryz.prog 151 = true := by kernel_rfl
theorem bd152 : bodied Tryz.prog 152 = true := by kernel_rfl
theorem bd153 : bodied Tryz.prog 153 = true := by kernel_rfl
theorem bd154 : bodied Tryz.prog 154 = true := by kernel_rfl
theorem bd155 : bodied Tryz.prog 155 = true := by kernel_rfl
theorem bd156 : bodied Tryz.prog 156 = true := by kernel_rfl
theorem bd157 : bodied Tryz.prog 157 = true := by kernel_rfl
theorem bd158 : bodied Tryz.prog 158 = true := by kernel_rfl
theorem bd159 : bodied Tryz.prog 159 = true := by kernel_rfl
theorem bd160 : bodied Tryz.prog 160 = true := by kernel_rfl
theorem bd161 : bodied Tryz.prog 161 = true := by kernel_rfl
theorem bd162 : bodied Tryz.prog 162 = true := by kernel_rfl
theorem bd163 : bodied Tryz.prog 163 = true := by kernel_rfl
theorem bd164 : bodied Tryz.prog 164 = true := by kernel_rfl
theorem bd165 : bodied Tryz.prog 165 = true := by kernel_rfl
theorem bd166 : bodied Tryz.prog 166 = true := by kernel_rfl
theorem bd167 : bodied Tryz.prog 167 = true := by kernel_rfl
theorem bd168 : bodied Tryz.prog 168 = true := by kernel_rfl
theorem bd169 : bodied Tryz.prog 169 = true := by kernel_rfl
theorem bd170 : bodied Tryz.prog 170 = true := by kernel_rfl
theorem bd171 : bodied Tryz.prog 171 = true := by kernel_rfl
theorem bd172 : bodied Tryz.prog 172 = true := by kernel_rfl
theorem bd173 : bodied Tryz.prog 173 = true := by kernel_rfl
theorem bd174 : bodied Tryz.prog 174 = true := by kernel_rfl
theorem bd175 : bodied Tryz.prog 175 = true := by kernel_rfl
theorem bd176 : bodied Tryz.prog 176 = true := by kernel_rfl
theorem bd177 : bodied Tryz.prog 177 = true := by kernel_rfl
theorem bd178 : bodied Tryz.prog 178 = true := by kernel_rfl
theorem bd179 : bodied Tryz.prog 179 = true := by kernel_rfl
theorem bd180 : bodied Tryz.prog 180 = true := by kernel_rfl
theorem bd181 : bodied Tryz.prog 181 = true := by kernel_rfl
theorem bd182 : bodied Tryz.prog 182 = true := by kernel_rfl
theorem bd183 : bodied Tryz.prog 183 = true := by kernel_rfl
theorem bd184 : bodied Tryz.prog 184 = true := by kernel_rfl
theorem bd185 : bodied Tryz.prog 185 = true := by kernel_rfl
theorem bd186 : bodied Tryz.prog 186 = true := by kernel_rfl
theorem bd187 : bodied Tryz.prog 187 = true := by kernel_rfl
theorem bd189 : bodied Tryz.prog 189 = true := by kernel_rfl
theorem bd190 : bodied Tryz.prog 190 = true := by kernel_rfl
theorem bd191 : bodied Tryz.prog 191 = true := by kernel_rfl
theorem bd192 : bodied Tryz.prog 192 = true := by kernel_rfl
theorem bd193 : bodied Tryz.prog 193 = true := by kernel_rfl
theorem bd194 : bodied Tryz.prog 194 = true := by kernel_rfl
theorem bd195 : bodied Tryz.prog 195 = true := by kernel_rfl
theorem bd196 : bodied Tryz.prog 196 = true := by kernel_rfl
theorem bd197 : bodied Tryz.prog 197 = true := by kernel_rfl
theorem bd198 : bodied Tryz.prog 198 = true := by kernel_rfl
theorem bd199 : bodied Tryz.prog 199 = true := by kernel_rfl
theorem bd200 : bodied Tryz.prog 200 = true := by kernel_rfl
theorem bd201 : bodied Tryz.prog 201 = true := by kernel_rfl
theorem bd202 : bodied Tryz.prog 202 = true := by kernel_rfl
theorem bd203 : bodied Tryz.prog 203 = true := by kernel_rfl
theorem bd204 : bodied Tryz.prog 204 = true := by kernel_rfl
theorem bd205 : bodied Tryz.prog 205 = true := by kernel_rfl
theorem bd206 : bodied Tryz.prog 206 = true := by kernel_rfl
theorem bd207 : bodied Tryz.prog 207 = true := by kernel_rfl
theorem bd208 : bodied Tryz.prog 208 = true := by kernel_rfl
theorem bd209 : bodied Tryz.prog 209 = true := by kernel_rfl
theorem bd210 : bodied Tryz.prog 210 = true := by kernel_rfl
theorem bd211 : bodied Tryz.prog 211 = true := by kernel_rfl
theorem bd212 : bodied Tryz.prog 212 = true := by kernel_rfl
theorem bd213 : bodied Tryz.prog 213 = true := by kernel_rfl
theorem bd214 : bodied Tryz.prog 214 = true := by kernel_rfl
theorem bd215 : bodied Tryz.prog 215 = true := by kernel_rfl
theorem bd216 : bodied Tryz.prog 216 = true := by kernel_rfl
theorem bd217 : bodied Tryz.prog 217 = true := by kernel_rfl
theorem bd218 : bodied Tryz.prog 218 = true := by kernel_rfl
theorem bd219 : bodied Tryz.prog 219 = true := by kernel_rfl
theorem bd220 : bodied Tryz.prog 220 = true := by kernel_rfl
theorem bd221 : bodied Tryz.prog 221 = true := by kernel_rfl
theorem bd222 : bodied Tryz.prog 222 = true := by kernel_rfl
theorem bd223 : bodied Tryz.prog 223 = true := by kernel_rfl
theorem bd224 : bodied Tryz.prog 224 = true := by kernel_rfl
theorem bd225 : bodied Tryz.prog 225 = true := by kernel_rfl
theorem bd226 : bodied Tryz.prog 226 = true := by kernel_rfl
theorem bd227 : bodied Tryz.prog 227 = true := by kernel_rfl
theorem bd228 : bodied Tryz.prog 228 = true := by kernel_rfl
theorem bd229 : bodied Tryz.prog 229 = true := by kernel_rfl
theorem bd230 : bodied Tryz.prog 230 = true := by kernel_rfl
theorem bd231 : bodied Tryz.prog 231 = true := by kernel_rfl
theorem bd232 : bodied Tryz.prog 232 = true := by kernel_rfl
theorem bd233 : bodied Tryz.prog 233 = true := by kernel_rfl
theorem bd234 : bodied Tryz.prog 234 = true := by kernel_rfl
theorem bd235 : bodied Tryz.prog 235 = true := by kernel_rfl
theorem bd236 : bodied Tryz.prog 236 = true := by kernel_rfl
theorem bd237 : bodied Tryz.prog 237 = true := by kernel_rfl
theorem bd238 : bodied Tryz.prog 238 = true := by kernel_rfl
theorem bd239 : bodied Tryz.prog 239 = true := by kernel_rfl
theorem bd240 : bodied Tryz.prog 240 = true := by kernel_rfl
theorem bd241 : bodied Tryz.prog 241 = true := by kernel_rfl
theorem bd242 : bodied Tryz.prog 242 = true := by kernel_rfl
theorem bd243 : bodied Tryz.prog 243 = true := by kernel_rfl
theorem bd244 : bodied Tryz.prog 244 = true := by kernel_rfl
theorem bd245 : bodied Tryz.prog 245 = true := by kernel_rfl
theorem bd246 : bodied Tryz.prog 246 = true := by kernel_rfl
theorem bd247 : bodied Tryz.prog 247 = true := by kernel_rfl
theorem bd248 : bodied Tryz.prog 248 = true := by kernel_rfl
theorem bd249 : bodied Tryz.prog 249 = true := by kernel_rfl
theorem bd250 : bodied Tryz.prog 250 = true := by kernel_rfl
theorem bd251 : bodied Tryz.prog 251 = true := by kernel_rfl
theorem bd252 : bodied Tryz.prog 252 = true := by kernel_rfl
theorem bd253 : bodied Tryz.prog 253 = true := by kernel_rfl
theorem bd254 : bodied Tryz.prog 254 = true := by kernel_rfl
theorem bd255 : bodied Tryz.prog 255 = true := by kernel_rfl
theorem bd256 : bodied Tryz.prog 256 = true := by kernel_rfl
theorem bd257 : bodied Tryz.prog 257 = true := by kernel_rfl
theorem bd258 : bodied Tryz.prog 258 = true := by kernel_rfl
theorem bd259 : bodied Tryz.prog 259 = true := by kernel_rfl
theorem bd260 : bodied Tryz.prog 260 = true := by kernel_rfl
theorem bd261 : bodied Tryz.prog 261 = true := by kernel_rfl
theorem bd262 : bodied Tryz.prog 262 = true := by kernel_rfl
theorem bd263 : bodied Tryz.prog 263 = true := by kernel_rfl
theorem bd264 : bodied Tryz.prog 264 = true := by kernel_rfl
theorem bd265 : bodied Tryz.prog 265 = true := by kernel_rfl
theorem bd266 : bodied Tryz.prog 266 = true := by kernel_rfl
theorem bd267 : bodied Tryz.prog 267 = true := by kernel_rfl
theorem bd268 : bodied Tryz.prog 268 = true := by kernel_rfl
theorem bd269 : bodied Tryz.prog 269 = true := by kernel_rfl
theorem bd270 : bodied Tryz.prog 270 = true := by kernel_rfl
theorem bd271 : bodied Tryz.prog 271 = true := by kernel_rfl
theorem bd272 : bodied Tryz.prog 272 = true := by kernel_rfl
theorem bd273 : bodied Tryz.prog 273 = true := by kernel_rfl
theorem bd274 : bodied Tryz.prog 274 = true := by kernel_rfl
theorem bd275 : bodied Tryz.prog 275 = true := by kernel_rfl
theorem bd276 : bodied Tryz.prog 276 = true := by kernel_rfl
theorem bd277 : bodied Tryz.prog 277 = true := by kernel_rfl
theorem bd278 : bodied Tryz.prog 278 = true := by kernel_rfl
theorem bd279 : bodied Tryz.prog 279 = true := by kernel_rfl
theorem bd280 : bodied Tryz.prog 280 = true := by kernel_rfl
theorem bd281 : bodied Tryz.prog 281 = true := by kernel_rfl
theorem bd282 : bodied Tryz.prog 282 = true := by kernel_rfl
theorem bd283 : bodied Tryz.prog 283 = true := by kernel_rfl
theorem bd284 : bodied Tryz.prog 284 = true := by kernel_rfl
theorem bd285 : bodied Tryz.prog 285 = true := by kernel_rfl
theorem bd286 : bodied Tryz.prog 286 = true := by kernel_rfl
theorem bd287 : bodied Tryz.prog 287 = true := by kernel_rfl
theorem bd288 : bodied Tryz.prog 288 = true := by kernel_rfl
theorem bd289 : bodied Tryz.prog 289 = true := by kernel_rfl
theorem bd290 : bodied Tryz.prog 290 = true := by kernel_rfl
theorem bd291 : bodied Tryz.prog 291 = true := by kernel_rfl
theorem bd292 : bodied Tryz.prog 292 = true := by kernel_rfl
theorem bd293 : bodied Tryz.prog 293 = true := by kernel_rfl
theorem bd294 : bodied Tryz.prog 294 = true := by kernel_rfl
theorem bd295 : bodied Tryz.prog 295 = true := by kernel_rfl
theorem bd296 : bodied Tryz.prog 296 = true := by kernel_rfl
theorem bd297 : bodied Tryz.prog 297 = true := by kernel_rfl
theorem bd298 : bodied Tryz.prog 298 = true := by kernel_rfl
theorem bd300 : bodied Tryz.prog 300 = true := by kernel_rfl
theorem bd301 : bodied Tryz.prog 301 = true := by kernel_rfl
theorem bd302 : bodied Tryz.prog 302 = true := by kernel_rfl
theorem bd303 : bodied Tryz.prog 303 = true := by kernel_rfl
theorem bd304 : bodied Tryz.prog 304 = true := by kernel_rfl
theorem bd305 : bodied Tryz.prog 305 = true := by kernel_rfl
theorem bd307 : bodied Tryz.prog 307 = true := by kernel_rfl
theorem bd308 : bodied Tryz.prog 308 = true := by kernel_rfl
theorem bd310 : bodied Tryz.prog 310 = true := by kernel_rfl
theorem bd334 : bodied Tryz.prog 334 = true := by kernel_rfl
end Go.Proofs.YtieobkifoehanaaGreatDoor
