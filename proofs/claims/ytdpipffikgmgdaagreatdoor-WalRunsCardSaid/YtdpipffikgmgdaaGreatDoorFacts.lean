/- Facts on the tables of the program, each by the kernel: sizes, zero values, which functions have bodies. Conditions: none. -/
import Derived.Test.YtdpipffikgmgdaaGreatDoorAb6
import Derived.Test.YtdpipffikgmgdaaGreatDoorProg
import Derived.KernelRfl
namespace Go.Proofs.YtdpipffikgmgdaaGreatDoor
open Go Go.Abs Go.Proofs
theorem tz0 : tsize Tryz.prog 0 = some 1 := by kernel_rfl
theorem tz1 : tsize Tryz.prog 1 = some 1 := by kernel_rfl
theorem zc1 : zeroC Tryz.prog 1 = some [.nilfunc] := by kernel_rfl
theorem tz2 : tsize Tryz.prog 2 = some 1 := by kernel_rfl
theorem zc2 : zeroC Tryz.prog 2 = some [.int .i64 0] := by kernel_rfl
theorem tz3 : tsize Tryz.prog 3 = some 1 := by kernel_rfl
theorem zc3 : zeroC Tryz.prog 3 = some [.int .i64 0] := by kernel_rfl
theorem tz4 : tsize Tryz.prog 4 = some 1 := by kernel_rfl
theorem zc4 : zeroC Tryz.prog 4 = some [.bool false] := by kernel_rfl
theorem tz5 : tsize Tryz.prog 5 = some 1 := by kernel_rfl
theorem zc5 : zeroC Tryz.prog 5 = some [.int .u8 0] := by kernel_rfl
theorem tz6 : tsize Tryz.prog 6 = some 1 := by kernel_rfl
theorem zc6 : zeroC Tryz.prog 6 = some [.int .u8 0] := by kernel_rfl
theorem tz7 : tsize Tryz.prog 7 = some 4 := by kernel_rfl
theorem zc7 : zeroC Tryz.prog 7 = some [.int .i64 0, .int .i64 0, .bool false, .int .u8 0] := by kernel_rfl
theorem tz8 : tsize Tryz.prog 8 = some 4 := by kernel_rfl
theorem zc8 : zeroC Tryz.prog 8 = some [.int .i64 0, .int .i64 0, .bool false, .int .u8 0] := by kernel_rfl
theorem tz9 : tsize Tryz.prog 9 = some 1 := by kernel_rfl
theorem zc9 : zeroC Tryz.prog 9 = some [.str []] := by kernel_rfl
theorem tz10 : tsize Tryz.prog 10 = some 1 := by kernel_rfl
theorem zc10 : zeroC Tryz.prog 10 = some [.str []] := by kernel_rfl
theorem tz11 : tsize Tryz.prog 11 = some 1 := by kernel_rfl
theorem zc11 : zeroC Tryz.prog 11 = some [.str []] := by kernel_rfl
theorem tz12 : tsize Tryz.prog 12 = some 1 := by kernel_rfl
theorem zc12 : zeroC Tryz.prog 12 = some [.int .u64 0] := by kernel_rfl
theorem tz13 : tsize Tryz.prog 13 = some 2 := by kernel_rfl
theorem zc13 : zeroC Tryz.prog 13 = some [.str [], .int .u64 0] := by kernel_rfl
theorem tz14 : tsize Tryz.prog 14 = some 2 := by kernel_rfl
theorem zc14 : zeroC Tryz.prog 14 = some [.str [], .int .u64 0] := by kernel_rfl
theorem tz15 : tsize Tryz.prog 15 = some 1 := by kernel_rfl
theorem zc15 : zeroC Tryz.prog 15 = some [.nilptr] := by kernel_rfl
theorem tz16 : tsize Tryz.prog 16 = some 1 := by kernel_rfl
theorem zc16 : zeroC Tryz.prog 16 = some [.nilptr] := by kernel_rfl
theorem tz17 : tsize Tryz.prog 17 = some 1 := by kernel_rfl
theorem zc17 : zeroC Tryz.prog 17 = some [.nilptr] := by kernel_rfl
theorem tz18 : tsize Tryz.prog 18 = some 1 := by kernel_rfl
theorem zc18 : zeroC Tryz.prog 18 = some [.nilptr] := by kernel_rfl
theorem tz19 : tsize Tryz.prog 19 = some 1 := by kernel_rfl
theorem zc19 : zeroC Tryz.prog 19 = some [.nilptr] := by kernel_rfl
theorem tz20 : tsize Tryz.prog 20 = some 1 := by kernel_rfl
theorem zc20 : zeroC Tryz.prog 20 = some [.nilif] := by kernel_rfl
theorem tz21 : tsize Tryz.prog 21 = some 1 := by kernel_rfl
theorem zc21 : zeroC Tryz.prog 21 = some [.int .i32 0] := by kernel_rfl
theorem tz22 : tsize Tryz.prog 22 = some 1 := by kernel_rfl
theorem zc22 : zeroC Tryz.prog 22 = some [.nilsl] := by kernel_rfl
theorem tz23 : tsize Tryz.prog 23 = some 1 := by kernel_rfl
theorem zc23 : zeroC Tryz.prog 23 = some [.nilsl] := by kernel_rfl
theorem tz24 : tsize Tryz.prog 24 = some 1 := by kernel_rfl
theorem zc24 : zeroC Tryz.prog 24 = some [.nilfunc] := by kernel_rfl
theorem tz25 : tsize Tryz.prog 25 = some 1 := by kernel_rfl
theorem zc25 : zeroC Tryz.prog 25 = some [.nilfunc] := by kernel_rfl
theorem tz26 : tsize Tryz.prog 26 = some 1 := by kernel_rfl
theorem zc26 : zeroC Tryz.prog 26 = some [.nilptr] := by kernel_rfl
theorem tz27 : tsize Tryz.prog 27 = some 1 := by kernel_rfl
theorem zc27 : zeroC Tryz.prog 27 = some [.int .i64 0] := by kernel_rfl
theorem tz28 : tsize Tryz.prog 28 = some 1 := by kernel_rfl
theorem tz29 : tsize Tryz.prog 29 = some 1 := by kernel_rfl
theorem zc29 : zeroC Tryz.prog 29 = some [.nilfunc] := by kernel_rfl
theorem tz30 : tsize Tryz.prog 30 = some 1 := by kernel_rfl
theorem zc30 : zeroC Tryz.prog 30 = some [.nilptr] := by kernel_rfl
theorem tz31 : tsize Tryz.prog 31 = some 1 := by kernel_rfl
theorem tz32 : tsize Tryz.prog 32 = some 1 := by kernel_rfl
theorem zc32 : zeroC Tryz.prog 32 = some [.nilfunc] := by kernel_rfl
theorem tz33 : tsize Tryz.prog 33 = some 1 := by kernel_rfl
theorem zc33 : zeroC Tryz.prog 33 = some [.nilfunc] := by kernel_rfl
theorem tz34 : tsize Tryz.prog 34 = some 1 := by kernel_rfl
theorem zc34 : zeroC Tryz.prog 34 = some [.nilfunc] := by kernel_rfl
theorem tz35 : tsize Tryz.prog 35 = some 1 := by kernel_rfl
theorem zc35 : zeroC Tryz.prog 35 = some [.nilfunc] := by kernel_rfl
theorem tz36 : tsize Tryz.prog 36 = some 1 := by kernel_rfl
theorem zc36 : zeroC Tryz.prog 36 = some [.nilfunc] := by kernel_rfl
theorem tz37 : tsize Tryz.prog 37 = some 1 := by kernel_rfl
theorem zc37 : zeroC Tryz.prog 37 = some [.nilfunc] := by kernel_rfl
theorem tz38 : tsize Tryz.prog 38 = some 1 := by kernel_rfl
theorem zc38 : zeroC Tryz.prog 38 = some [.nilfunc] := by kernel_rfl
theorem tz39 : tsize Tryz.prog 39 = some 1 := by kernel_rfl
theorem zc39 : zeroC Tryz.prog 39 = some [.nilfunc] := by kernel_rfl
theorem tz40 : tsize Tryz.prog 40 = some 1 := by kernel_rfl
theorem zc40 : zeroC Tryz.prog 40 = some [.nilfunc] := by kernel_rfl
theorem tz41 : tsize Tryz.prog 41 = some 1 := by kernel_rfl
theorem zc41 : zeroC Tryz.prog 41 = some [.nilfunc] := by kernel_rfl
theorem tz42 : tsize Tryz.prog 42 = some 1 := by kernel_rfl
theorem zc42 : zeroC Tryz.prog 42 = some [.nilmap] := by kernel_rfl
theorem tz43 : tsize Tryz.prog 43 = some 1 := by kernel_rfl
theorem zc43 : zeroC Tryz.prog 43 = some [.nilmap] := by kernel_rfl
theorem tz44 : tsize Tryz.prog 44 = some 1 := by kernel_rfl
theorem zc44 : zeroC Tryz.prog 44 = some [.nilsl] := by kernel_rfl
theorem tz45 : tsize Tryz.prog 45 = some 1 := by kernel_rfl
theorem zc45 : zeroC Tryz.prog 45 = some [.int .u64 0] := by kernel_rfl
theorem tz46 : tsize Tryz.prog 46 = some 8 := by kernel_rfl
theorem zc46 : zeroC Tryz.prog 46 = some [.bool false, .int .i64 0, .nilmap, .nilmap, .nilsl, .int .u64 0, .bool false, .int .i64 0] := by kernel_rfl
theorem tz47 : tsize Tryz.prog 47 = some 8 := by kernel_rfl
theorem zc47 : zeroC Tryz.prog 47 = some [.bool false, .int .i64 0, .nilmap, .nilmap, .nilsl, .int .u64 0, .bool false, .int .i64 0] := by kernel_rfl
theorem tz48 : tsize Tryz.prog 48 = some 1 := by kernel_rfl
theorem zc48 : zeroC Tryz.prog 48 = some [.int .i64 0] := by kernel_rfl
theorem tz49 : tsize Tryz.prog 49 = some 1 := by kernel_rfl
theorem zc49 : zeroC Tryz.prog 49 = some [.int .i64 0] := by kernel_rfl
theorem tz50 : tsize Tryz.prog 50 = some 5 := by kernel_rfl
theorem zc50 : zeroC Tryz.prog 50 = some [.int .i64 0, .nilptr, .str [], .int .i64 0, .int .i64 0] := by kernel_rfl
theorem tz51 : tsize Tryz.prog 51 = some 5 := by kernel_rfl
theorem zc51 : zeroC Tryz.prog 51 = some [.int .i64 0, .nilptr, .str [], .int .i64 0, .int .i64 0] := by kernel_rfl
theorem tz52 : tsize Tryz.prog 52 = some 1 := by kernel_rfl
theorem tz53 : tsize Tryz.prog 53 = some 1 := by kernel_rfl
theorem zc53 : zeroC Tryz.prog 53 = some [.nilfunc] := by kernel_rfl
theorem tz54 : tsize Tryz.prog 54 = some 1 := by kernel_rfl
theorem zc54 : zeroC Tryz.prog 54 = some [.nilfunc] := by kernel_rfl
theorem tz55 : tsize Tryz.prog 55 = some 1 := by kernel_rfl
theorem zc55 : zeroC Tryz.prog 55 = some [.nilsl] := by kernel_rfl
theorem tz56 : tsize Tryz.prog 56 = some 1 := by kernel_rfl
theorem tz57 : tsize Tryz.prog 57 = some 1 := by kernel_rfl
theorem zc57 : zeroC Tryz.prog 57 = some [.nilfunc] := by kernel_rfl
theorem tz58 : tsize Tryz.prog 58 = some 1 := by kernel_rfl
theorem tz59 : tsize Tryz.prog 59 = some 1 := by kernel_rfl
theorem zc59 : zeroC Tryz.prog 59 = some [.nilfunc] := by kernel_rfl
theorem tz60 : tsize Tryz.prog 60 = some 1 := by kernel_rfl
theorem tz61 : tsize Tryz.prog 61 = some 1 := by kernel_rfl
theorem zc61 : zeroC Tryz.prog 61 = some [.nilfunc] := by kernel_rfl
theorem tz62 : tsize Tryz.prog 62 = some 1 := by kernel_rfl
theorem zc62 : zeroC Tryz.prog 62 = some [.nilfunc] := by kernel_rfl
theorem tz63 : tsize Tryz.prog 63 = some 1 := by kernel_rfl
theorem zc63 : zeroC Tryz.prog 63 = some [.nilfunc] := by kernel_rfl
theorem tz64 : tsize Tryz.prog 64 = some 1 := by kernel_rfl
theorem zc64 : zeroC Tryz.prog 64 = some [.nilfunc] := by kernel_rfl
theorem tz65 : tsize Tryz.prog 65 = some 1 := by kernel_rfl
theorem zc65 : zeroC Tryz.prog 65 = some [.nilfunc] := by kernel_rfl
theorem tz66 : tsize Tryz.prog 66 = some 1 := by kernel_rfl
theorem zc66 : zeroC Tryz.prog 66 = some [.nilptr] := by kernel_rfl
theorem tz67 : tsize Tryz.prog 67 = some 1 := by kernel_rfl
theorem zc67 : zeroC Tryz.prog 67 = some [.nilfunc] := by kernel_rfl
theorem tz68 : tsize Tryz.prog 68 = some 1 := by kernel_rfl
theorem zc68 : zeroC Tryz.prog 68 = some [.nilfunc] := by kernel_rfl
theorem tz69 : tsize Tryz.prog 69 = some 1 := by kernel_rfl
theorem zc69 : zeroC Tryz.prog 69 = some [.nilfunc] := by kernel_rfl
theorem tz70 : tsize Tryz.prog 70 = some 1 := by kernel_rfl
theorem zc70 : zeroC Tryz.prog 70 = some [.nilfunc] := by kernel_rfl
theorem tz71 : tsize Tryz.prog 71 = some 1 := by kernel_rfl
theorem zc71 : zeroC Tryz.prog 71 = some [.nilfunc] := by kernel_rfl
theorem tz72 : tsize Tryz.prog 72 = some 1 := by kernel_rfl
theorem zc72 : zeroC Tryz.prog 72 = some [.nilfunc] := by kernel_rfl
theorem tz73 : tsize Tryz.prog 73 = some 1 := by kernel_rfl
theorem zc73 : zeroC Tryz.prog 73 = some [.nilfunc] := by kernel_rfl
theorem tz74 : tsize Tryz.prog 74 = some 1 := by kernel_rfl
theorem zc74 : zeroC Tryz.prog 74 = some [.nilfunc] := by kernel_rfl
theorem tz75 : tsize Tryz.prog 75 = some 3 := by kernel_rfl
theorem zc75 : zeroC Tryz.prog 75 = some [.nilsl, .nilsl, .int .u64 0] := by kernel_rfl
theorem tz76 : tsize Tryz.prog 76 = some 3 := by kernel_rfl
theorem zc76 : zeroC Tryz.prog 76 = some [.nilsl, .nilsl, .int .u64 0] := by kernel_rfl
theorem tz77 : tsize Tryz.prog 77 = some 1 := by kernel_rfl
theorem zc77 : zeroC Tryz.prog 77 = some [.nilfunc] := by kernel_rfl
theorem tz78 : tsize Tryz.prog 78 = some 1 := by kernel_rfl
theorem zc78 : zeroC Tryz.prog 78 = some [.nilfunc] := by kernel_rfl
theorem tz79 : tsize Tryz.prog 79 = some 1 := by kernel_rfl
theorem zc79 : zeroC Tryz.prog 79 = some [.nilfunc] := by kernel_rfl
theorem tz80 : tsize Tryz.prog 80 = some 1 := by kernel_rfl
theorem zc80 : zeroC Tryz.prog 80 = some [.nilfunc] := by kernel_rfl
theorem tz81 : tsize Tryz.prog 81 = some 1 := by kernel_rfl
theorem zc81 : zeroC Tryz.prog 81 = some [.str []] := by kernel_rfl
theorem tz82 : tsize Tryz.prog 82 = some 1 := by kernel_rfl
theorem zc82 : zeroC Tryz.prog 82 = some [.nilfunc] := by kernel_rfl
theorem tz83 : tsize Tryz.prog 83 = some 1 := by kernel_rfl
theorem zc83 : zeroC Tryz.prog 83 = some [.nilfunc] := by kernel_rfl
theorem tz84 : tsize Tryz.prog 84 = some 1 := by kernel_rfl
theorem zc84 : zeroC Tryz.prog 84 = some [.nilfunc] := by kernel_rfl
theorem tz85 : tsize Tryz.prog 85 = some 1 := by kernel_rfl
theorem tz86 : tsize Tryz.prog 86 = some 1 := by kernel_rfl
theorem zc86 : zeroC Tryz.prog 86 = some [.nilfunc] := by kernel_rfl
theorem tz87 : tsize Tryz.prog 87 = some 1 := by kernel_rfl
theorem zc87 : zeroC Tryz.prog 87 = some [.nilfunc] := by kernel_rfl
theorem tz88 : tsize Tryz.prog 88 = some 1 := by kernel_rfl
theorem zc88 : zeroC Tryz.prog 88 = some [.nilfunc] := by kernel_rfl
theorem tz89 : tsize Tryz.prog 89 = some 1 := by kernel_rfl
theorem zc89 : zeroC Tryz.prog 89 = some [.nilfunc] := by kernel_rfl
theorem tz90 : tsize Tryz.prog 90 = some 1 := by kernel_rfl
theorem zc90 : zeroC Tryz.prog 90 = some [.nilfunc] := by kernel_rfl
theorem tz91 : tsize Tryz.prog 91 = some 1 := by kernel_rfl
theorem zc91 : zeroC Tryz.prog 91 = some [.nilfunc] := by kernel_rfl
theorem tz92 : tsize Tryz.prog 92 = some 1 := by kernel_rfl
theorem zc92 : zeroC Tryz.prog 92 = some [.int .u32 0] := by kernel_rfl
theorem tz93 : tsize Tryz.prog 93 = some 1 := by kernel_rfl
theorem zc93 : zeroC Tryz.prog 93 = some [.nilfunc] := by kernel_rfl
theorem tz94 : tsize Tryz.prog 94 = some 1 := by kernel_rfl
theorem zc94 : zeroC Tryz.prog 94 = some [.nilptr] := by kernel_rfl
theorem tz95 : tsize Tryz.prog 95 = some 1 := by kernel_rfl
theorem zc95 : zeroC Tryz.prog 95 = some [.nilfunc] := by kernel_rfl
theorem tz96 : tsize Tryz.prog 96 = some 1 := by kernel_rfl
theorem zc96 : zeroC Tryz.prog 96 = some [.nilfunc] := by kernel_rfl
theorem tz97 : tsize Tryz.prog 97 = some 1 := by kernel_rfl
theorem zc97 : zeroC Tryz.prog 97 = some [.nilfunc] := by kernel_rfl
theorem tz98 : tsize Tryz.prog 98 = some 1 := by kernel_rfl
theorem zc98 : zeroC Tryz.prog 98 = some [.nilfunc] := by kernel_rfl
theorem tz99 : tsize Tryz.prog 99 = some 1 := by kernel_rfl
theorem zc99 : zeroC Tryz.prog 99 = some [.nilfunc] := by kernel_rfl
theorem tz100 : tsize Tryz.prog 100 = some 1 := by kernel_rfl
theorem zc100 : zeroC Tryz.prog 100 = some [.nilsl] := by kernel_rfl
theorem tz101 : tsize Tryz.prog 101 = some 1 := by kernel_rfl
theorem tz102 : tsize Tryz.prog 102 = some 1 := by kernel_rfl
theorem zc102 : zeroC Tryz.prog 102 = some [.nilfunc] := by kernel_rfl
theorem tz103 : tsize Tryz.prog 103 = some 1 := by kernel_rfl
theorem zc103 : zeroC Tryz.prog 103 = some [.nilfunc] := by kernel_rfl
theorem tz104 : tsize Tryz.prog 104 = some 1 := by kernel_rfl
theorem zc104 : zeroC Tryz.prog 104 = some [.nilsl] := by kernel_rfl
theorem tz105 : tsize Tryz.prog 105 = some 1 := by kernel_rfl
theorem zc105 : zeroC Tryz.prog 105 = some [.int .u64 0] := by kernel_rfl
theorem tz106 : tsize Tryz.prog 106 = some 1 := by kernel_rfl
theorem zc106 : zeroC Tryz.prog 106 = some [.nilfunc] := by kernel_rfl
theorem tz107 : tsize Tryz.prog 107 = some 1 := by kernel_rfl
theorem zc107 : zeroC Tryz.prog 107 = some [.nilfunc] := by kernel_rfl
theorem tz108 : tsize Tryz.prog 108 = some 1 := by kernel_rfl
theorem zc108 : zeroC Tryz.prog 108 = some [.nilfunc] := by kernel_rfl
theorem tz109 : tsize Tryz.prog 109 = some 1 := by kernel_rfl
theorem zc109 : zeroC Tryz.prog 109 = some [.nilfunc] := by kernel_rfl
theorem tz110 : tsize Tryz.prog 110 = some 1 := by kernel_rfl
theorem zc110 : zeroC Tryz.prog 110 = some [.nilfunc] := by kernel_rfl
theorem tz111 : tsize Tryz.prog 111 = some 1 := by kernel_rfl
theorem zc111 : zeroC Tryz.prog 111 = some [.nilfunc] := by kernel_rfl
theorem tz112 : tsize Tryz.prog 112 = some 1 := by kernel_rfl
theorem zc112 : zeroC Tryz.prog 112 = some [.nilfunc] := by kernel_rfl
theorem tz113 : tsize Tryz.prog 113 = some 1 := by kernel_rfl
theorem zc113 : zeroC Tryz.prog 113 = some [.nilfunc] := by kernel_rfl
theorem tz114 : tsize Tryz.prog 114 = some 1 := by kernel_rfl
theorem zc114 : zeroC Tryz.prog 114 = some [.nilfunc] := by kernel_rfl
theorem tz115 : tsize Tryz.prog 115 = some 1 := by kernel_rfl
theorem zc115 : zeroC Tryz.prog 115 = some [.nilfunc] := by kernel_rfl
theorem tz116 : tsize Tryz.prog 116 = some 1 := by kernel_rfl
theorem zc116 : zeroC Tryz.prog 116 = some [.nilfunc] := by kernel_rfl
theorem tz117 : tsize Tryz.prog 117 = some 1 := by kernel_rfl
theorem zc117 : zeroC Tryz.prog 117 = some [.int .i64 0] := by kernel_rfl
theorem tz118 : tsize Tryz.prog 118 = some 1 := by kernel_rfl
theorem tz119 : tsize Tryz.prog 119 = some 1 := by kernel_rfl
theorem zc119 : zeroC Tryz.prog 119 = some [.nilfunc] := by kernel_rfl
theorem tz120 : tsize Tryz.prog 120 = some 1 := by kernel_rfl
theorem zc120 : zeroC Tryz.prog 120 = some [.nilfunc] := by kernel_rfl
theorem tz121 : tsize Tryz.prog 121 = some 1 := by kernel_rfl
theorem tz122 : tsize Tryz.prog 122 = some 1 := by kernel_rfl
theorem zc122 : zeroC Tryz.prog 122 = some [.nilfunc] := by kernel_rfl
theorem tz123 : tsize Tryz.prog 123 = some 1 := by kernel_rfl
theorem zc123 : zeroC Tryz.prog 123 = some [.nilfunc] := by kernel_rfl
theorem tz124 : tsize Tryz.prog 124 = some 1 := by kernel_rfl
theorem zc124 : zeroC Tryz.prog 124 = some [.nilfunc] := by kernel_rfl
theorem tz125 : tsize Tryz.prog 125 = some 1 := by kernel_rfl
theorem zc125 : zeroC Tryz.prog 125 = some [.nilfunc] := by kernel_rfl
theorem tz126 : tsize Tryz.prog 126 = some 1 := by kernel_rfl
theorem zc126 : zeroC Tryz.prog 126 = some [.nilfunc] := by kernel_rfl
theorem tz127 : tsize Tryz.prog 127 = some 1 := by kernel_rfl
theorem zc127 : zeroC Tryz.prog 127 = some [.nilfunc] := by kernel_rfl
theorem tz128 : tsize Tryz.prog 128 = some 1 := by kernel_rfl
theorem zc128 : zeroC Tryz.prog 128 = some [.int .u64 0] := by kernel_rfl
theorem tz129 : tsize Tryz.prog 129 = some 1 := by kernel_rfl
theorem zc129 : zeroC Tryz.prog 129 = some [.nilfunc] := by kernel_rfl
theorem tz130 : tsize Tryz.prog 130 = some 1 := by kernel_rfl
theorem zc130 : zeroC Tryz.prog 130 = some [.nilfunc] := by kernel_rfl
theorem tz131 : tsize Tryz.prog 131 = some 1 := by kernel_rfl
theorem zc131 : zeroC Tryz.prog 131 = some [.nilptr] := by kernel_rfl
theorem tz132 : tsize Tryz.prog 132 = some 1 := by kernel_rfl
theorem zc132 : zeroC Tryz.prog 132 = some [.nilfunc] := by kernel_rfl
theorem tz133 : tsize Tryz.prog 133 = some 1 := by kernel_rfl
theorem zc133 : zeroC Tryz.prog 133 = some [.nilfunc] := by kernel_rfl
theorem tz134 : tsize Tryz.prog 134 = some 1 := by kernel_rfl
theorem tz135 : tsize Tryz.prog 135 = some 1 := by kernel_rfl
theorem zc135 : zeroC Tryz.prog 135 = some [.nilfunc] := by kernel_rfl
theorem tz136 : tsize Tryz.prog 136 = some 1 := by kernel_rfl
theorem zc136 : zeroC Tryz.prog 136 = some [.nilfunc] := by kernel_rfl
theorem tz137 : tsize Tryz.prog 137 = some 1 := by kernel_rfl
theorem zc137 : zeroC Tryz.prog 137 = some [.nilptr] := by kernel_rfl
theorem tz138 : tsize Tryz.prog 138 = some 1 := by kernel_rfl
theorem tz139 : tsize Tryz.prog 139 = some 1 := by kernel_rfl
theorem zc139 : zeroC Tryz.prog 139 = some [.nilfunc] := by kernel_rfl
theorem tz140 : tsize Tryz.prog 140 = some 1 := by kernel_rfl
theorem zc140 : zeroC Tryz.prog 140 = some [.nilfunc] := by kernel_rfl
theorem tz141 : tsize Tryz.prog 141 = some 256 := by kernel_rfl
theorem tz142 : tsize Tryz.prog 142 = some 2 := by kernel_rfl
theorem zc142 : zeroC Tryz.prog 142 = some [.int .u8 0, .int .u8 0] := by kernel_rfl
theorem tz143 : tsize Tryz.prog 143 = some 2 := by kernel_rfl
theorem zc143 : zeroC Tryz.prog 143 = some [.int .u8 0, .int .u8 0] := by kernel_rfl
theorem tz144 : tsize Tryz.prog 144 = some 32 := by kernel_rfl
theorem tz145 : tsize Tryz.prog 145 = some 1 := by kernel_rfl
theorem tz146 : tsize Tryz.prog 146 = some 1 := by kernel_rfl
theorem zc146 : zeroC Tryz.prog 146 = some [.nilfunc] := by kernel_rfl
theorem tz147 : tsize Tryz.prog 147 = some 1 := by kernel_rfl
theorem zc147 : zeroC Tryz.prog 147 = some [.nilfunc] := by kernel_rfl
theorem tz148 : tsize Tryz.prog 148 = some 4 := by kernel_rfl
theorem zc148 : zeroC Tryz.prog 148 = some [.nilptr, .nilptr, .nilptr, .str []] := by kernel_rfl
theorem tz149 : tsize Tryz.prog 149 = some 4 := by kernel_rfl
theorem zc149 : zeroC Tryz.prog 149 = some [.nilptr, .nilptr, .nilptr, .str []] := by kernel_rfl
theorem tz150 : tsize Tryz.prog 150 = some 0 := by kernel_rfl
theorem zc150 : zeroC Tryz.prog 150 = some [] := by kernel_rfl
theorem tz151 : tsize Tryz.prog 151 = some 0 := by kernel_rfl
theorem zc151 : zeroC Tryz.prog 151 = some [] := by kernel_rfl
theorem tz152 : tsize Tryz.prog 152 = some 0 := by kernel_rfl
theorem zc152 : zeroC Tryz.prog 152 = some [] := by kernel_rfl
theorem tz153 : tsize Tryz.prog 153 = some 1 := by kernel_rfl
theorem zc153 : zeroC Tryz.prog 153 = some [.int .u8 0] := by kernel_rfl
theorem tz154 : tsize Tryz.prog 154 = some 1 := by kernel_rfl
theorem zc154 : zeroC Tryz.prog 154 = some [.int .u8 0] := by kernel_rfl
theorem tz155 : tsize Tryz.prog 155 = some 1 := by kernel_rfl
theorem zc155 : zeroC Tryz.prog 155 = some [.nilfunc] := by kernel_rfl
theorem tz156 : tsize Tryz.prog 156 = some 1 := by kernel_rfl
theorem zc156 : zeroC Tryz.prog 156 = some [.nilptr] := by kernel_rfl
theorem tz157 : tsize Tryz.prog 157 = some 1 := by kernel_rfl
theorem zc157 : zeroC Tryz.prog 157 = some [.int .i32 0] := by kernel_rfl
theorem tz158 : tsize Tryz.prog 158 = some 1 := by kernel_rfl
theorem zc158 : zeroC Tryz.prog 158 = some [.int .i32 0] := by kernel_rfl
theorem tz159 : tsize Tryz.prog 159 = some 11 := by kernel_rfl
theorem zc159 : zeroC Tryz.prog 159 = some [.int .u64 0, .int .u64 0, .int .u32 0, .int .u8 0, .int .u8 0, .int .u8 0, .int .u8 0, .nilfunc, .nilptr, .int .i32 0, .int .i32 0] := by kernel_rfl
theorem tz160 : tsize Tryz.prog 160 = some 11 := by kernel_rfl
theorem zc160 : zeroC Tryz.prog 160 = some [.int .u64 0, .int .u64 0, .int .u32 0, .int .u8 0, .int .u8 0, .int .u8 0, .int .u8 0, .nilfunc, .nilptr, .int .i32 0, .int .i32 0] := by kernel_rfl
theorem tz161 : tsize Tryz.prog 161 = some 1 := by kernel_rfl
theorem zc161 : zeroC Tryz.prog 161 = some [.nilptr] := by kernel_rfl
attribute [go_sem] tz0 tz1 tz2 tz3 tz4 tz5 tz6 tz7 tz8 tz9 tz10 tz11 tz12 tz13 tz14 tz15 tz16 tz17 tz18 tz19 tz20 tz21 tz22 tz23 tz24 tz25 tz26 tz27 tz28 tz29 tz30 tz31 tz32 tz33 tz34 tz35 tz36 tz37 tz38 tz39 tz40 tz41 tz42 tz43 tz44 tz45 tz46 tz47 tz48 tz49 tz50 tz51 tz52 tz53 tz54 tz55 tz56 tz57 tz58 tz59 tz60 tz61 tz62 tz63 tz64 tz65 tz66 tz67 tz68 tz69 tz70 tz71 tz72 tz73 tz74 tz75 tz76 tz77 tz78 tz79 tz80 tz81 tz82 tz83 tz84 tz85 tz86 tz87 tz88 tz89 tz90 tz91 tz92 tz93 tz94 tz95 tz96 tz97 tz98 tz99 tz100 tz101 tz102 tz103 tz104 tz105 tz106 tz107 tz108 tz109 tz110 tz111 tz112 tz113 tz114 tz115 tz116 tz117 tz118 tz119 tz120 tz121 tz122 tz123 tz124 tz125 tz126 tz127 tz128 tz129 tz130 tz131 tz132 tz133 tz134 tz135 tz136 tz137 tz138 tz139 tz140 tz141 tz142 tz143 tz144 tz145 tz146 tz147 tz148 tz149 tz150 tz151 tz152 tz153 tz154 tz155 tz156 tz157 tz158 tz159 tz160 tz161 zc1 zc2 zc3 zc4 zc5 zc6 zc7 zc8 zc9 zc10 zc11 zc12 zc13 zc14 zc15 zc16 zc17 zc18 zc19 zc20 zc21 zc22 zc23 zc24 zc25 zc26 zc27 zc29 zc30 zc32 zc33 zc34 zc35 zc36 zc37 zc38 zc39 zc40 zc41 zc42 zc43 zc44 zc45 zc46 zc47 zc48 zc49 zc50 zc51 zc53 zc54 zc55 zc57 zc59 zc61 zc62 zc63 zc64 zc65 zc66 zc67 zc68 zc69 zc70 zc71 zc72 zc73 zc74 zc75 zc76 zc77 zc78 zc79 zc80 zc81 zc82 zc83 zc84 zc86 zc87 zc88 zc89 zc90 zc91 zc92 zc93 zc94 zc95 zc96 zc97 zc98 zc99 zc100 zc102 zc103 zc104 zc105 zc106 zc107 zc108 zc109 zc110 zc111 zc112 zc113 zc114 zc115 zc116 zc117 zc119 zc120 zc122 zc123 zc124 zc125 zc126 zc127 zc128 zc129 zc130 zc131 zc132 zc133 zc135 zc136 zc137 zc139 zc140 zc142 zc143 zc146 zc147 zc148 zc149 zc150 zc151 zc152 zc153 zc154 zc155 zc156 zc157 zc158 zc159 zc160 zc161 Tryz.underlying0 Tryz.underlying1 Tryz.underlying2 Tryz.underlying3 Tryz.underlying4 Tryz.underlying5 Tryz.underlying6 Tryz.underlying7 Tryz.underlying8 Tryz.underlying9 Tryz.underlying10 Tryz.underlying11 Tryz.underlying12 Tryz.underlying13 Tryz.underlying14 Tryz.underlying15 Tryz.underlying16 Tryz.underlying17 Tryz.underlying18 Tryz.underlying19 Tryz.underlying20 Tryz.underlying21 Tryz.underlying22 Tryz.underlying23 Tryz.underlying24 Tryz.underlying25 Tryz.underlying26 Tryz.underlying27 Tryz.underlying28 Tryz.underlying29 Tryz.underlying30 Tryz.underlying31 Tryz.underlying32 Tryz.underlying33 Tryz.underlying34 Tryz.underlying35 Tryz.underlying36 Tryz.underlying37 Tryz.underlying38 Tryz.underlying39 Tryz.underlying40 Tryz.underlying41 Tryz.underlying42 Tryz.underlying43 Tryz.underlying44 Tryz.underlying45 Tryz.underlying46 Tryz.underlying47 Tryz.underlying48 Tryz.underlying49 Tryz.underlying50 Tryz.underlying51 Tryz.underlying52 Tryz.underlying53 Tryz.underlying54 Tryz.underlying55 Tryz.underlying56 Tryz.underlying57 Tryz.underlying58 Tryz.underlying59 Tryz.underlying60 Tryz.underlying61 Tryz.underlying62 Tryz.underlying63 Tryz.underlying64 Tryz.underlying65 Tryz.underlying66 Tryz.underlying67 Tryz.underlying68 Tryz.underlying69 Tryz.underlying70 Tryz.underlying71 Tryz.underlying72 Tryz.underlying73 Tryz.underlying74 Tryz.underlying75 Tryz.underlying76 Tryz.underlying77 Tryz.underlying78 Tryz.underlying79 Tryz.underlying80 Tryz.underlying81 Tryz.underlying82 Tryz.underlying83 Tryz.underlying84 Tryz.underlying85 Tryz.underlying86 Tryz.underlying87 Tryz.underlying88 Tryz.underlying89 Tryz.underlying90 Tryz.underlying91 Tryz.underlying92 Tryz.underlying93 Tryz.underlying94 Tryz.underlying95 Tryz.underlying96 Tryz.underlying97 Tryz.underlying98 Tryz.underlying99 Tryz.underlying100 Tryz.underlying101 Tryz.underlying102 Tryz.underlying103 Tryz.underlying104 Tryz.underlying105 Tryz.underlying106 Tryz.underlying107 Tryz.underlying108 Tryz.underlying109 Tryz.underlying110 Tryz.underlying111 Tryz.underlying112 Tryz.underlying113 Tryz.underlying114 Tryz.underlying115 Tryz.underlying116 Tryz.underlying117 Tryz.underlying118 Tryz.underlying119 Tryz.underlying120 Tryz.underlying121 Tryz.underlying122 Tryz.underlying123 Tryz.underlying124 Tryz.underlying125 Tryz.underlying126 Tryz.underlying127 Tryz.underlying128 Tryz.underlying129 Tryz.underlying130 Tryz.underlying131 Tryz.underlying132 Tryz.underlying133 Tryz.underlying134 Tryz.underlying135 Tryz.underlying136 Tryz.underlying137 Tryz.underlying138 Tryz.underlying139 Tryz.underlying140 Tryz.underlying141 Tryz.underlying142 Tryz.underlying143 Tryz.underlying144 Tryz.underlying145 Tryz.underlying146 Tryz.underlying147 Tryz.underlying148 Tryz.underlying149 Tryz.underlying150 Tryz.underlying151 Tryz.underlying152 Tryz.underlying153 Tryz.underlying154 Tryz.underlying155 Tryz.underlying156 Tryz.underlying157 Tryz.underlying158 Tryz.underlying159 Tryz.underlying160 Tryz.underlying161
theorem bd2 : bodied Tryz.prog 2 = true := by kernel_rfl
theorem bd3 : bodied Tryz.prog 3 = true := by kernel_rfl
theorem bd4 : bodied Tryz.prog 4 = true := by kernel_rfl
theorem bd5 : bodied Tryz.prog 5 = true := by kernel_rfl
theorem bd6 : bodied Tryz.prog 6 = true := by kernel_rfl
theorem bd7 : bodied Tryz.prog 7 = true := by kernel_rfl
theorem bd8 : bodied Tryz.prog 8 = true := by kernel_rfl
theorem bd9 : bodied Tryz.prog 9 = true := by kernel_rfl
theorem bd10 : bodied Tryz.prog 10 = true := by kernel_rfl
theorem bd11 : bodied Tryz.prog 11 = true := by kernel_rfl
theorem bd12 : bodied Tryz.prog 12 = true := by kernel_rfl
theorem bd13 : bodied Tryz.prog 13 = true := by kernel_rfl
theorem bd14 : bodied Tryz.prog 14 = true := by kernel_rfl
theorem bd15 : bodied Tryz.prog 15 = true := by kernel_rfl
theorem bd16 : bodied Tryz.prog 16 = true := by kernel_rfl
theorem bd17 : bodied Tryz.prog 17 = true := by kernel_rfl
theorem bd18 : bodied Tryz.prog 18 = true := by kernel_rfl
theorem bd19 : bodied Tryz.prog 19 = true := by kernel_rfl
theorem bd20 : bodied Tryz.prog 20 = true := by kernel_rfl
theorem bd21 : bodied Tryz.prog 21 = true := by kernel_rfl
theorem bd22 : bodied Tryz.prog 22 = true := by kernel_rfl
theorem bd23 : bodied Tryz.prog 23 = true := by kernel_rfl
theorem bd24 : bodied Tryz.prog 24 = true := by kernel_rfl
theorem bd25 : bodied Tryz.prog 25 = true := by kernel_rfl
theorem bd26 : bodied Tryz.prog 26 = true := by kernel_rfl
theorem bd27 : bodied Tryz.prog 27 = true := by kernel_rfl
theorem bd28 : bodied Tryz.prog 28 = true := by kernel_rfl
theorem bd29 : bodied Tryz.prog 29 = true := by kernel_rfl
theorem bd30 : bodied Tryz.prog 30 = true := by kernel_rfl
theorem bd31 : bodied Tryz.prog 31 = true := by kernel_rfl
theorem bd32 : bodied Tryz.prog 32 = true := by kernel_rfl
theorem bd33 : bodied Tryz.prog 33 = true := by kernel_rfl
theorem bd34 : bodied Tryz.prog 34 = true := by kernel_rfl
theorem bd35 : bodied Tryz.prog 35 = true := by kernel_rfl
theorem bd36 : bodied Tryz.prog 36 = true := by kernel_rfl
theorem bd37 : bodied Tryz.prog 37 = true := by kernel_rfl
theorem bd38 : bodied Tryz.prog 38 = true := by kernel_rfl
theorem bd39 : bodied Tryz.prog 39 = true := by kernel_rfl
theorem bd40 : bodied Tryz.prog 40 = true := by kernel_rfl
theorem bd41 : bodied Tryz.prog 41 = true := by kernel_rfl
theorem bd42 : bodied Tryz.prog 42 = true := by kernel_rfl
theorem bd43 : bodied Tryz.prog 43 = true := by kernel_rfl
theorem bd44 : bodied Tryz.prog 44 = true := by kernel_rfl
theorem bd45 : bodied Tryz.prog 45 = true := by kernel_rfl
theorem bd46 : bodied Tryz.prog 46 = true := by kernel_rfl
theorem bd47 : bodied Tryz.prog 47 = true := by kernel_rfl
theorem bd48 : bodied Tryz.prog 48 = true := by kernel_rfl
theorem bd49 : bodied Tryz.prog 49 = true := by kernel_rfl
theorem bd50 : bodied Tryz.prog 50 = true := by kernel_rfl
theorem bd51 : bodied Tryz.prog 51 = true := by kernel_rfl
theorem bd52 : bodied Tryz.prog 52 = true := by kernel_rfl
theorem bd53 : bodied Tryz.prog 53 = true := by kernel_rfl
theorem bd54 : bodied Tryz.prog 54 = true := by kernel_rfl
theorem bd55 : bodied Tryz.prog 55 = true := by kernel_rfl
theorem bd56 : bodied Tryz.prog 56 = true := by kernel_rfl
theorem bd57 : bodied Tryz.prog 57 = true := by kernel_rfl
theorem bd58 : bodied Tryz.prog 58 = true := by kernel_rfl
theorem bd59 : bodied Tryz.prog 59 = true := by kernel_rfl
theorem bd60 : bodied Tryz.prog 60 = true := by kernel_rfl
theorem bd61 : bodied Tryz.prog 61 = true := by kernel_rfl
theorem bd62 : bodied Tryz.prog 62 = true := by kernel_rfl
theorem bd63 : bodied Tryz.prog 63 = true := by kernel_rfl
theorem bd65 : bodied Tryz.prog 65 = true := by kernel_rfl
theorem bd66 : bodied Tryz.prog 66 = true := by kernel_rfl
theorem bd67 : bodied Tryz.prog 67 = true := by kernel_rfl
theorem bd68 : bodied Tryz.prog 68 = true := by kernel_rfl
theorem bd69 : bodied Tryz.prog 69 = true := by kernel_rfl
theorem bd70 : bodied Tryz.prog 70 = true := by kernel_rfl
theorem bd71 : bodied Tryz.prog 71 = true := by kernel_rfl
theorem bd72 : bodied Tryz.prog 72 = true := by kernel_rfl
theorem bd73 : bodied Tryz.prog 73 = true := by kernel_rfl
theorem bd74 : bodied Tryz.prog 74 = true := by kernel_rfl
theorem bd75 : bodied Tryz.prog 75 = true := by kernel_rfl
theorem bd76 : bodied Tryz.prog 76 = true := by kernel_rfl
theorem bd77 : bodied Tryz.prog 77 = true := by kernel_rfl
theorem bd78 : bodied Tryz.prog 78 = true := by kernel_rfl
theorem bd79 : bodied Tryz.prog 79 = true := by kernel_rfl
theorem bd80 : bodied Tryz.prog 80 = true := by kernel_rfl
theorem bd81 : bodied Tryz.prog 81 = true := by kernel_rfl
theorem bd82 : bodied Tryz.prog 82 = true := by kernel_rfl
theorem bd83 : bodied Tryz.prog 83 = true := by kernel_rfl
theorem bd84 : bodied Tryz.prog 84 = true := by kernel_rfl
theorem bd85 : bodied Tryz.prog 85 = true := by kernel_rfl
theorem bd86 : bodied Tryz.prog 86 = true := by kernel_rfl
theorem bd87 : bodied Tryz.prog 87 = true := by kernel_rfl
theorem bd88 : bodied Tryz.prog 88 = true := by kernel_rfl
theorem bd89 : bodied Tryz.prog 89 = true := by kernel_rfl
theorem bd90 : bodied Tryz.prog 90 = true := by kernel_rfl
theorem bd91 : bodied Tryz.prog 91 = true := by kernel_rfl
theorem bd92 : bodied Tryz.prog 92 = true := by kernel_rfl
theorem bd93 : bodied Tryz.prog 93 = true := by kernel_rfl
theorem bd94 : bodied Tryz.prog 94 = true := by kernel_rfl
theorem bd95 : bodied Tryz.prog 95 = true := by kernel_rfl
theorem bd96 : bodied Tryz.prog 96 = true := by kernel_rfl
theorem bd97 : bodied Tryz.prog 97 = true := by kernel_rfl
theorem bd98 : bodied Tryz.prog 98 = true := by kernel_rfl
theorem bd99 : bodied Tryz.prog 99 = true := by kernel_rfl
theorem bd100 : bodied Tryz.prog 100 = true := by kernel_rfl
theorem bd101 : bodied Tryz.prog 101 = true := by kernel_rfl
theorem bd102 : bodied Tryz.prog 102 = true := by kernel_rfl
theorem bd103 : bodied Tryz.prog 103 = true := by kernel_rfl
theorem bd104 : bodied Tryz.prog 104 = true := by kernel_rfl
theorem bd105 : bodied Tryz.prog 105 = true := by kernel_rfl
theorem bd106 : bodied Tryz.prog 106 = true := by kernel_rfl
theorem bd107 : bodied Tryz.prog 107 = true := by kernel_rfl
theorem bd108 : bodied Tryz.prog 108 = true := by kernel_rfl
theorem bd109 : bodied Tryz.prog 109 = true := by kernel_rfl
theorem bd110 : bodied Tryz.prog 110 = true := by kernel_rfl
theorem bd111 : bodied Tryz.prog 111 = true := by kernel_rfl
theorem bd113 : bodied Tryz.prog 113 = true := by kernel_rfl
theorem bd114 : bodied Tryz.prog 114 = true := by kernel_rfl
theorem bd115 : bodied Tryz.prog 115 = true := by kernel_rfl
theorem bd116 : bodied Tryz.prog 116 = true := by kernel_rfl
theorem bd118 : bodied Tryz.prog 118 = true := by kernel_rfl
theorem bd119 : bodied Tryz.prog 119 = true := by kernel_rfl
theorem bd121 : bodied Tryz.prog 121 = true := by kernel_rfl
theorem bd143 : bodied Tryz.prog 143 = true := by kernel_rfl
end Go.Proofs.YtdpipffikgmgdaaGreatDoor
