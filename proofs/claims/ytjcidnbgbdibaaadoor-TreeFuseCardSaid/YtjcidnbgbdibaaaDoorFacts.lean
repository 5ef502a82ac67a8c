/- Facts on the tables of the program, each by the kernel: sizes, zero values, which functions have bodies. Conditions: none. -/
import Derived.Test.YtjcidnbgbdibaaaDoorAb6
import Derived.Test.YtjcidnbgbdibaaaDoorProg
import Derived.KernelRfl
namespace Go.Proofs.YtjcidnbgbdibaaaDoor
open Go Go.Abs Go.Proofs
theorem tz0 : tsize Tryd.prog 0 = some 1 := by kernel_rfl
theorem tz1 : tsize Tryd.prog 1 = some 1 := by kernel_rfl
theorem zc1 : zeroC Tryd.prog 1 = some [.nilfunc] := by kernel_rfl
theorem tz2 : tsize Tryd.prog 2 = some 1 := by kernel_rfl
theorem zc2 : zeroC Tryd.prog 2 = some [.int .i64 0] := by kernel_rfl
theorem tz3 : tsize Tryd.prog 3 = some 1 := by kernel_rfl
theorem zc3 : zeroC Tryd.prog 3 = some [.int .i64 0] := by kernel_rfl
theorem tz4 : tsize Tryd.prog 4 = some 1 := by kernel_rfl
theorem zc4 : zeroC Tryd.prog 4 = some [.bool false] := by kernel_rfl
theorem tz5 : tsize Tryd.prog 5 = some 1 := by kernel_rfl
theorem zc5 : zeroC Tryd.prog 5 = some [.int .u8 0] := by kernel_rfl
theorem tz6 : tsize Tryd.prog 6 = some 1 := by kernel_rfl
theorem zc6 : zeroC Tryd.prog 6 = some [.int .u8 0] := by kernel_rfl
theorem tz7 : tsize Tryd.prog 7 = some 4 := by kernel_rfl
theorem zc7 : zeroC Tryd.prog 7 = some [.int .i64 0, .int .i64 0, .bool false, .int .u8 0] := by kernel_rfl
theorem tz8 : tsize Tryd.prog 8 = some 4 := by kernel_rfl
theorem zc8 : zeroC Tryd.prog 8 = some [.int .i64 0, .int .i64 0, .bool false, .int .u8 0] := by kernel_rfl
theorem tz9 : tsize Tryd.prog 9 = some 1 := by kernel_rfl
theorem zc9 : zeroC Tryd.prog 9 = some [.str []] := by kernel_rfl
theorem tz10 : tsize Tryd.prog 10 = some 1 := by kernel_rfl
theorem zc10 : zeroC Tryd.prog 10 = some [.str []] := by kernel_rfl
theorem tz11 : tsize Tryd.prog 11 = some 1 := by kernel_rfl
theorem zc11 : zeroC Tryd.prog 11 = some [.str []] := by kernel_rfl
theorem tz12 : tsize Tryd.prog 12 = some 1 := by kernel_rfl
theorem zc12 : zeroC Tryd.prog 12 = some [.int .u64 0] := by kernel_rfl
theorem tz13 : tsize Tryd.prog 13 = some 2 := by kernel_rfl
theorem zc13 : zeroC Tryd.prog 13 = some [.str [], .int .u64 0] := by kernel_rfl
theorem tz14 : tsize Tryd.prog 14 = some 2 := by kernel_rfl
theorem zc14 : zeroC Tryd.prog 14 = some [.str [], .int .u64 0] := by kernel_rfl
theorem tz15 : tsize Tryd.prog 15 = some 1 := by kernel_rfl
theorem zc15 : zeroC Tryd.prog 15 = some [.nilptr] := by kernel_rfl
theorem tz16 : tsize Tryd.prog 16 = some 1 := by kernel_rfl
theorem zc16 : zeroC Tryd.prog 16 = some [.nilptr] := by kernel_rfl
theorem tz17 : tsize Tryd.prog 17 = some 1 := by kernel_rfl
theorem zc17 : zeroC Tryd.prog 17 = some [.nilptr] := by kernel_rfl
theorem tz18 : tsize Tryd.prog 18 = some 1 := by kernel_rfl
theorem zc18 : zeroC Tryd.prog 18 = some [.nilptr] := by kernel_rfl
theorem tz19 : tsize Tryd.prog 19 = some 1 := by kernel_rfl
theorem zc19 : zeroC Tryd.prog 19 = some [.nilptr] := by kernel_rfl
theorem tz20 : tsize Tryd.prog 20 = some 1 := by kernel_rfl
theorem zc20 : zeroC Tryd.prog 20 = some [.nilif] := by kernel_rfl
theorem tz21 : tsize Tryd.prog 21 = some 1 := by kernel_rfl
theorem zc21 : zeroC Tryd.prog 21 = some [.int .i32 0] := by kernel_rfl
theorem tz22 : tsize Tryd.prog 22 = some 1 := by kernel_rfl
theorem zc22 : zeroC Tryd.prog 22 = some [.nilsl] := by kernel_rfl
theorem tz23 : tsize Tryd.prog 23 = some 1 := by kernel_rfl
theorem zc23 : zeroC Tryd.prog 23 = some [.nilsl] := by kernel_rfl
theorem tz24 : tsize Tryd.prog 24 = some 1 := by kernel_rfl
theorem zc24 : zeroC Tryd.prog 24 = some [.nilfunc] := by kernel_rfl
theorem tz25 : tsize Tryd.prog 25 = some 1 := by kernel_rfl
theorem zc25 : zeroC Tryd.prog 25 = some [.nilptr] := by kernel_rfl
theorem tz26 : tsize Tryd.prog 26 = some 1 := by kernel_rfl
theorem zc26 : zeroC Tryd.prog 26 = some [.int .i64 0] := by kernel_rfl
theorem tz27 : tsize Tryd.prog 27 = some 1 := by kernel_rfl
theorem tz28 : tsize Tryd.prog 28 = some 1 := by kernel_rfl
theorem zc28 : zeroC Tryd.prog 28 = some [.nilfunc] := by kernel_rfl
theorem tz29 : tsize Tryd.prog 29 = some 1 := by kernel_rfl
theorem zc29 : zeroC Tryd.prog 29 = some [.nilfunc] := by kernel_rfl
theorem tz30 : tsize Tryd.prog 30 = some 1 := by kernel_rfl
theorem zc30 : zeroC Tryd.prog 30 = some [.nilfunc] := by kernel_rfl
theorem tz31 : tsize Tryd.prog 31 = some 1 := by kernel_rfl
theorem zc31 : zeroC Tryd.prog 31 = some [.nilfunc] := by kernel_rfl
theorem tz32 : tsize Tryd.prog 32 = some 1 := by kernel_rfl
theorem zc32 : zeroC Tryd.prog 32 = some [.nilfunc] := by kernel_rfl
theorem tz33 : tsize Tryd.prog 33 = some 1 := by kernel_rfl
theorem zc33 : zeroC Tryd.prog 33 = some [.nilfunc] := by kernel_rfl
theorem tz34 : tsize Tryd.prog 34 = some 1 := by kernel_rfl
theorem zc34 : zeroC Tryd.prog 34 = some [.nilfunc] := by kernel_rfl
theorem tz35 : tsize Tryd.prog 35 = some 1 := by kernel_rfl
theorem zc35 : zeroC Tryd.prog 35 = some [.int .u64 0] := by kernel_rfl
theorem tz36 : tsize Tryd.prog 36 = some 1 := by kernel_rfl
theorem tz37 : tsize Tryd.prog 37 = some 1 := by kernel_rfl
theorem zc37 : zeroC Tryd.prog 37 = some [.nilfunc] := by kernel_rfl
theorem tz38 : tsize Tryd.prog 38 = some 1 := by kernel_rfl
theorem zc38 : zeroC Tryd.prog 38 = some [.nilfunc] := by kernel_rfl
theorem tz39 : tsize Tryd.prog 39 = some 1 := by kernel_rfl
theorem zc39 : zeroC Tryd.prog 39 = some [.nilfunc] := by kernel_rfl
theorem tz40 : tsize Tryd.prog 40 = some 1 := by kernel_rfl
theorem zc40 : zeroC Tryd.prog 40 = some [.nilsl] := by kernel_rfl
theorem tz41 : tsize Tryd.prog 41 = some 1 := by kernel_rfl
theorem zc41 : zeroC Tryd.prog 41 = some [.nilfunc] := by kernel_rfl
theorem tz42 : tsize Tryd.prog 42 = some 1 := by kernel_rfl
theorem zc42 : zeroC Tryd.prog 42 = some [.nilfunc] := by kernel_rfl
theorem tz43 : tsize Tryd.prog 43 = some 6 := by kernel_rfl
theorem zc43 : zeroC Tryd.prog 43 = some [.int .i64 0, .str [], .str [], .nilsl, .int .i64 0, .nilsl] := by kernel_rfl
theorem tz44 : tsize Tryd.prog 44 = some 6 := by kernel_rfl
theorem zc44 : zeroC Tryd.prog 44 = some [.int .i64 0, .str [], .str [], .nilsl, .int .i64 0, .nilsl] := by kernel_rfl
theorem tz45 : tsize Tryd.prog 45 = some 2 := by kernel_rfl
theorem zc45 : zeroC Tryd.prog 45 = some [.str [], .int .i64 0] := by kernel_rfl
theorem tz46 : tsize Tryd.prog 46 = some 2 := by kernel_rfl
theorem zc46 : zeroC Tryd.prog 46 = some [.str [], .int .i64 0] := by kernel_rfl
theorem tz47 : tsize Tryd.prog 47 = some 1 := by kernel_rfl
theorem zc47 : zeroC Tryd.prog 47 = some [.nilfunc] := by kernel_rfl
theorem tz48 : tsize Tryd.prog 48 = some 1 := by kernel_rfl
theorem zc48 : zeroC Tryd.prog 48 = some [.nilfunc] := by kernel_rfl
theorem tz49 : tsize Tryd.prog 49 = some 1 := by kernel_rfl
theorem zc49 : zeroC Tryd.prog 49 = some [.nilfunc] := by kernel_rfl
theorem tz50 : tsize Tryd.prog 50 = some 1 := by kernel_rfl
theorem zc50 : zeroC Tryd.prog 50 = some [.nilfunc] := by kernel_rfl
theorem tz51 : tsize Tryd.prog 51 = some 1 := by kernel_rfl
theorem zc51 : zeroC Tryd.prog 51 = some [.nilsl] := by kernel_rfl
theorem tz52 : tsize Tryd.prog 52 = some 1 := by kernel_rfl
theorem zc52 : zeroC Tryd.prog 52 = some [.nilfunc] := by kernel_rfl
theorem tz53 : tsize Tryd.prog 53 = some 1 := by kernel_rfl
theorem zc53 : zeroC Tryd.prog 53 = some [.nilfunc] := by kernel_rfl
theorem tz54 : tsize Tryd.prog 54 = some 1 := by kernel_rfl
theorem zc54 : zeroC Tryd.prog 54 = some [.nilfunc] := by kernel_rfl
theorem tz55 : tsize Tryd.prog 55 = some 1 := by kernel_rfl
theorem zc55 : zeroC Tryd.prog 55 = some [.nilfunc] := by kernel_rfl
theorem tz56 : tsize Tryd.prog 56 = some 1 := by kernel_rfl
theorem zc56 : zeroC Tryd.prog 56 = some [.nilmap] := by kernel_rfl
theorem tz57 : tsize Tryd.prog 57 = some 1 := by kernel_rfl
theorem zc57 : zeroC Tryd.prog 57 = some [.nilmap] := by kernel_rfl
theorem tz58 : tsize Tryd.prog 58 = some 1 := by kernel_rfl
theorem zc58 : zeroC Tryd.prog 58 = some [.nilsl] := by kernel_rfl
theorem tz59 : tsize Tryd.prog 59 = some 8 := by kernel_rfl
theorem zc59 : zeroC Tryd.prog 59 = some [.bool false, .int .i64 0, .nilmap, .nilmap, .nilsl, .int .u64 0, .bool false, .int .i64 0] := by kernel_rfl
theorem tz60 : tsize Tryd.prog 60 = some 8 := by kernel_rfl
theorem zc60 : zeroC Tryd.prog 60 = some [.bool false, .int .i64 0, .nilmap, .nilmap, .nilsl, .int .u64 0, .bool false, .int .i64 0] := by kernel_rfl
theorem tz61 : tsize Tryd.prog 61 = some 1 := by kernel_rfl
theorem zc61 : zeroC Tryd.prog 61 = some [.nilfunc] := by kernel_rfl
theorem tz62 : tsize Tryd.prog 62 = some 1 := by kernel_rfl
theorem zc62 : zeroC Tryd.prog 62 = some [.nilptr] := by kernel_rfl
theorem tz63 : tsize Tryd.prog 63 = some 3 := by kernel_rfl
theorem zc63 : zeroC Tryd.prog 63 = some [.nilsl, .nilsl, .int .u64 0] := by kernel_rfl
theorem tz64 : tsize Tryd.prog 64 = some 3 := by kernel_rfl
theorem zc64 : zeroC Tryd.prog 64 = some [.nilsl, .nilsl, .int .u64 0] := by kernel_rfl
theorem tz65 : tsize Tryd.prog 65 = some 1 := by kernel_rfl
theorem zc65 : zeroC Tryd.prog 65 = some [.nilfunc] := by kernel_rfl
theorem tz66 : tsize Tryd.prog 66 = some 1 := by kernel_rfl
theorem zc66 : zeroC Tryd.prog 66 = some [.nilfunc] := by kernel_rfl
theorem tz67 : tsize Tryd.prog 67 = some 1 := by kernel_rfl
theorem zc67 : zeroC Tryd.prog 67 = some [.nilfunc] := by kernel_rfl
theorem tz68 : tsize Tryd.prog 68 = some 1 := by kernel_rfl
theorem zc68 : zeroC Tryd.prog 68 = some [.nilfunc] := by kernel_rfl
theorem tz69 : tsize Tryd.prog 69 = some 1 := by kernel_rfl
theorem zc69 : zeroC Tryd.prog 69 = some [.nilfunc] := by kernel_rfl
theorem tz70 : tsize Tryd.prog 70 = some 1 := by kernel_rfl
theorem zc70 : zeroC Tryd.prog 70 = some [.nilfunc] := by kernel_rfl
theorem tz71 : tsize Tryd.prog 71 = some 1 := by kernel_rfl
theorem zc71 : zeroC Tryd.prog 71 = some [.nilfunc] := by kernel_rfl
theorem tz72 : tsize Tryd.prog 72 = some 1 := by kernel_rfl
theorem zc72 : zeroC Tryd.prog 72 = some [.nilfunc] := by kernel_rfl
theorem tz73 : tsize Tryd.prog 73 = some 1 := by kernel_rfl
theorem zc73 : zeroC Tryd.prog 73 = some [.nilfunc] := by kernel_rfl
theorem tz74 : tsize Tryd.prog 74 = some 1 := by kernel_rfl
theorem zc74 : zeroC Tryd.prog 74 = some [.nilfunc] := by kernel_rfl
theorem tz75 : tsize Tryd.prog 75 = some 1 := by kernel_rfl
theorem zc75 : zeroC Tryd.prog 75 = some [.nilfunc] := by kernel_rfl
theorem tz76 : tsize Tryd.prog 76 = some 1 := by kernel_rfl
theorem tz77 : tsize Tryd.prog 77 = some 1 := by kernel_rfl
theorem zc77 : zeroC Tryd.prog 77 = some [.nilfunc] := by kernel_rfl
theorem tz78 : tsize Tryd.prog 78 = some 1 := by kernel_rfl
theorem zc78 : zeroC Tryd.prog 78 = some [.nilfunc] := by kernel_rfl
theorem tz79 : tsize Tryd.prog 79 = some 1 := by kernel_rfl
theorem zc79 : zeroC Tryd.prog 79 = some [.nilfunc] := by kernel_rfl
theorem tz80 : tsize Tryd.prog 80 = some 1 := by kernel_rfl
theorem zc80 : zeroC Tryd.prog 80 = some [.nilfunc] := by kernel_rfl
theorem tz81 : tsize Tryd.prog 81 = some 1 := by kernel_rfl
theorem zc81 : zeroC Tryd.prog 81 = some [.nilfunc] := by kernel_rfl
theorem tz82 : tsize Tryd.prog 82 = some 1 := by kernel_rfl
theorem tz83 : tsize Tryd.prog 83 = some 1 := by kernel_rfl
theorem zc83 : zeroC Tryd.prog 83 = some [.nilfunc] := by kernel_rfl
theorem tz84 : tsize Tryd.prog 84 = some 1 := by kernel_rfl
theorem zc84 : zeroC Tryd.prog 84 = some [.nilfunc] := by kernel_rfl
theorem tz85 : tsize Tryd.prog 85 = some 1 := by kernel_rfl
theorem zc85 : zeroC Tryd.prog 85 = some [.nilfunc] := by kernel_rfl
theorem tz86 : tsize Tryd.prog 86 = some 1 := by kernel_rfl
theorem zc86 : zeroC Tryd.prog 86 = some [.nilsl] := by kernel_rfl
theorem tz87 : tsize Tryd.prog 87 = some 1 := by kernel_rfl
theorem zc87 : zeroC Tryd.prog 87 = some [.nilfunc] := by kernel_rfl
theorem tz88 : tsize Tryd.prog 88 = some 1 := by kernel_rfl
theorem zc88 : zeroC Tryd.prog 88 = some [.nilfunc] := by kernel_rfl
theorem tz89 : tsize Tryd.prog 89 = some 1 := by kernel_rfl
theorem zc89 : zeroC Tryd.prog 89 = some [.nilfunc] := by kernel_rfl
theorem tz90 : tsize Tryd.prog 90 = some 1 := by kernel_rfl
theorem zc90 : zeroC Tryd.prog 90 = some [.nilfunc] := by kernel_rfl
theorem tz91 : tsize Tryd.prog 91 = some 1 := by kernel_rfl
theorem zc91 : zeroC Tryd.prog 91 = some [.nilfunc] := by kernel_rfl
theorem tz92 : tsize Tryd.prog 92 = some 1 := by kernel_rfl
theorem zc92 : zeroC Tryd.prog 92 = some [.nilfunc] := by kernel_rfl
theorem tz93 : tsize Tryd.prog 93 = some 1 := by kernel_rfl
theorem zc93 : zeroC Tryd.prog 93 = some [.str []] := by kernel_rfl
theorem tz94 : tsize Tryd.prog 94 = some 1 := by kernel_rfl
theorem zc94 : zeroC Tryd.prog 94 = some [.nilfunc] := by kernel_rfl
theorem tz95 : tsize Tryd.prog 95 = some 1 := by kernel_rfl
theorem zc95 : zeroC Tryd.prog 95 = some [.nilfunc] := by kernel_rfl
theorem tz96 : tsize Tryd.prog 96 = some 1 := by kernel_rfl
theorem zc96 : zeroC Tryd.prog 96 = some [.nilfunc] := by kernel_rfl
theorem tz97 : tsize Tryd.prog 97 = some 1 := by kernel_rfl
theorem zc97 : zeroC Tryd.prog 97 = some [.int .u64 0] := by kernel_rfl
theorem tz98 : tsize Tryd.prog 98 = some 1 := by kernel_rfl
theorem zc98 : zeroC Tryd.prog 98 = some [.nilfunc] := by kernel_rfl
theorem tz99 : tsize Tryd.prog 99 = some 1 := by kernel_rfl
theorem zc99 : zeroC Tryd.prog 99 = some [.nilfunc] := by kernel_rfl
theorem tz100 : tsize Tryd.prog 100 = some 1 := by kernel_rfl
theorem zc100 : zeroC Tryd.prog 100 = some [.nilfunc] := by kernel_rfl
theorem tz101 : tsize Tryd.prog 101 = some 1 := by kernel_rfl
theorem zc101 : zeroC Tryd.prog 101 = some [.int .i64 0] := by kernel_rfl
theorem tz102 : tsize Tryd.prog 102 = some 1 := by kernel_rfl
theorem tz103 : tsize Tryd.prog 103 = some 1 := by kernel_rfl
theorem zc103 : zeroC Tryd.prog 103 = some [.nilfunc] := by kernel_rfl
theorem tz104 : tsize Tryd.prog 104 = some 1 := by kernel_rfl
theorem zc104 : zeroC Tryd.prog 104 = some [.nilfunc] := by kernel_rfl
theorem tz105 : tsize Tryd.prog 105 = some 1 := by kernel_rfl
theorem zc105 : zeroC Tryd.prog 105 = some [.nilfunc] := by kernel_rfl
theorem tz106 : tsize Tryd.prog 106 = some 1 := by kernel_rfl
theorem tz107 : tsize Tryd.prog 107 = some 1 := by kernel_rfl
theorem zc107 : zeroC Tryd.prog 107 = some [.nilfunc] := by kernel_rfl
theorem tz108 : tsize Tryd.prog 108 = some 1 := by kernel_rfl
theorem zc108 : zeroC Tryd.prog 108 = some [.nilfunc] := by kernel_rfl
theorem tz109 : tsize Tryd.prog 109 = some 1 := by kernel_rfl
theorem zc109 : zeroC Tryd.prog 109 = some [.int .u32 0] := by kernel_rfl
theorem tz110 : tsize Tryd.prog 110 = some 1 := by kernel_rfl
theorem zc110 : zeroC Tryd.prog 110 = some [.nilfunc] := by kernel_rfl
theorem tz111 : tsize Tryd.prog 111 = some 1 := by kernel_rfl
theorem zc111 : zeroC Tryd.prog 111 = some [.nilfunc] := by kernel_rfl
theorem tz112 : tsize Tryd.prog 112 = some 1 := by kernel_rfl
theorem zc112 : zeroC Tryd.prog 112 = some [.int .u64 0] := by kernel_rfl
theorem tz113 : tsize Tryd.prog 113 = some 1 := by kernel_rfl
theorem zc113 : zeroC Tryd.prog 113 = some [.nilfunc] := by kernel_rfl
theorem tz114 : tsize Tryd.prog 114 = some 1 := by kernel_rfl
theorem zc114 : zeroC Tryd.prog 114 = some [.nilfunc] := by kernel_rfl
theorem tz115 : tsize Tryd.prog 115 = some 1 := by kernel_rfl
theorem zc115 : zeroC Tryd.prog 115 = some [.nilptr] := by kernel_rfl
theorem tz116 : tsize Tryd.prog 116 = some 1 := by kernel_rfl
theorem zc116 : zeroC Tryd.prog 116 = some [.nilfunc] := by kernel_rfl
theorem tz117 : tsize Tryd.prog 117 = some 1 := by kernel_rfl
theorem zc117 : zeroC Tryd.prog 117 = some [.nilfunc] := by kernel_rfl
theorem tz118 : tsize Tryd.prog 118 = some 1 := by kernel_rfl
theorem zc118 : zeroC Tryd.prog 118 = some [.nilfunc] := by kernel_rfl
theorem tz119 : tsize Tryd.prog 119 = some 1 := by kernel_rfl
theorem zc119 : zeroC Tryd.prog 119 = some [.nilptr] := by kernel_rfl
theorem tz120 : tsize Tryd.prog 120 = some 1 := by kernel_rfl
theorem tz121 : tsize Tryd.prog 121 = some 1 := by kernel_rfl
theorem zc121 : zeroC Tryd.prog 121 = some [.nilfunc] := by kernel_rfl
theorem tz122 : tsize Tryd.prog 122 = some 1 := by kernel_rfl
theorem zc122 : zeroC Tryd.prog 122 = some [.nilfunc] := by kernel_rfl
theorem tz123 : tsize Tryd.prog 123 = some 1 := by kernel_rfl
theorem tz124 : tsize Tryd.prog 124 = some 1 := by kernel_rfl
theorem zc124 : zeroC Tryd.prog 124 = some [.nilfunc] := by kernel_rfl
theorem tz125 : tsize Tryd.prog 125 = some 1 := by kernel_rfl
theorem zc125 : zeroC Tryd.prog 125 = some [.nilfunc] := by kernel_rfl
theorem tz126 : tsize Tryd.prog 126 = some 1 := by kernel_rfl
theorem zc126 : zeroC Tryd.prog 126 = some [.nilfunc] := by kernel_rfl
theorem tz127 : tsize Tryd.prog 127 = some 256 := by kernel_rfl
theorem tz128 : tsize Tryd.prog 128 = some 2 := by kernel_rfl
theorem zc128 : zeroC Tryd.prog 128 = some [.int .u8 0, .int .u8 0] := by kernel_rfl
theorem tz129 : tsize Tryd.prog 129 = some 2 := by kernel_rfl
theorem zc129 : zeroC Tryd.prog 129 = some [.int .u8 0, .int .u8 0] := by kernel_rfl
theorem tz130 : tsize Tryd.prog 130 = some 32 := by kernel_rfl
theorem tz131 : tsize Tryd.prog 131 = some 1 := by kernel_rfl
theorem tz132 : tsize Tryd.prog 132 = some 1 := by kernel_rfl
theorem zc132 : zeroC Tryd.prog 132 = some [.nilfunc] := by kernel_rfl
theorem tz133 : tsize Tryd.prog 133 = some 1 := by kernel_rfl
theorem zc133 : zeroC Tryd.prog 133 = some [.nilfunc] := by kernel_rfl
theorem tz134 : tsize Tryd.prog 134 = some 4 := by kernel_rfl
theorem zc134 : zeroC Tryd.prog 134 = some [.nilptr, .nilptr, .nilptr, .str []] := by kernel_rfl
theorem tz135 : tsize Tryd.prog 135 = some 4 := by kernel_rfl
theorem zc135 : zeroC Tryd.prog 135 = some [.nilptr, .nilptr, .nilptr, .str []] := by kernel_rfl
theorem tz136 : tsize Tryd.prog 136 = some 0 := by kernel_rfl
theorem zc136 : zeroC Tryd.prog 136 = some [] := by kernel_rfl
theorem tz137 : tsize Tryd.prog 137 = some 0 := by kernel_rfl
theorem zc137 : zeroC Tryd.prog 137 = some [] := by kernel_rfl
theorem tz138 : tsize Tryd.prog 138 = some 0 := by kernel_rfl
theorem zc138 : zeroC Tryd.prog 138 = some [] := by kernel_rfl
theorem tz139 : tsize Tryd.prog 139 = some 1 := by kernel_rfl
theorem zc139 : zeroC Tryd.prog 139 = some [.int .u8 0] := by kernel_rfl
theorem tz140 : tsize Tryd.prog 140 = some 1 := by kernel_rfl
theorem zc140 : zeroC Tryd.prog 140 = some [.int .u8 0] := by kernel_rfl
theorem tz141 : tsize Tryd.prog 141 = some 1 := by kernel_rfl
theorem zc141 : zeroC Tryd.prog 141 = some [.nilfunc] := by kernel_rfl
theorem tz142 : tsize Tryd.prog 142 = some 1 := by kernel_rfl
theorem zc142 : zeroC Tryd.prog 142 = some [.nilptr] := by kernel_rfl
theorem tz143 : tsize Tryd.prog 143 = some 1 := by kernel_rfl
theorem zc143 : zeroC Tryd.prog 143 = some [.int .i32 0] := by kernel_rfl
theorem tz144 : tsize Tryd.prog 144 = some 1 := by kernel_rfl
theorem zc144 : zeroC Tryd.prog 144 = some [.int .i32 0] := by kernel_rfl
theorem tz145 : tsize Tryd.prog 145 = some 11 := by kernel_rfl
theorem zc145 : zeroC Tryd.prog 145 = some [.int .u64 0, .int .u64 0, .int .u32 0, .int .u8 0, .int .u8 0, .int .u8 0, .int .u8 0, .nilfunc, .nilptr, .int .i32 0, .int .i32 0] := by kernel_rfl
theorem tz146 : tsize Tryd.prog 146 = some 11 := by kernel_rfl
theorem zc146 : zeroC Tryd.prog 146 = some [.int .u64 0, .int .u64 0, .int .u32 0, .int .u8 0, .int .u8 0, .int .u8 0, .int .u8 0, .nilfunc, .nilptr, .int .i32 0, .int .i32 0] := by kernel_rfl
theorem tz147 : tsize Tryd.prog 147 = some 1 := by kernel_rfl
theorem zc147 : zeroC Tryd.prog 147 = some [.nilptr] := by kernel_rfl
attribute [go_sem] tz0 tz1 tz2 tz3 tz4 tz5 tz6 tz7 tz8 tz9 tz10 tz11 tz12 tz13 tz14 tz15 tz16 tz17 tz18 tz19 tz20 tz21 tz22 tz23 tz24 tz25 tz26 tz27 tz28 tz29 tz30 tz31 tz32 tz33 tz34 tz35 tz36 tz37 tz38 tz39 tz40 tz41 tz42 tz43 tz44 tz45 tz46 tz47 tz48 tz49 tz50 tz51 tz52 tz53 tz54 tz55 tz56 tz57 tz58 tz59 tz60 tz61 tz62 tz63 tz64 tz65 tz66 tz67 tz68 tz69 tz70 tz71 tz72 tz73 tz74 tz75 tz76 tz77 tz78 tz79 tz80 tz81 tz82 tz83 tz84 tz85 tz86 tz87 tz88 tz89 tz90 tz91 tz92 tz93 tz94 tz95 tz96 tz97 tz98 tz99 tz100 tz101 tz102 tz103 tz104 tz105 tz106 tz107 tz108 tz109 tz110 tz111 tz112 tz113 tz114 tz115 tz116 tz117 tz118 tz119 tz120 tz121 tz122 tz123 tz124 tz125 tz126 tz127 tz128 tz129 tz130 tz131 tz132 tz133 tz134 tz135 tz136 tz137 tz138 tz139 tz140 tz141 tz142 tz143 tz144 tz145 tz146 tz147 zc1 zc2 zc3 zc4 zc5 zc6 zc7 zc8 zc9 zc10 zc11 zc12 zc13 zc14 zc15 zc16 zc17 zc18 zc19 zc20 zc21 zc22 zc23 zc24 zc25 zc26 zc28 zc29 zc30 zc31 zc32 zc33 zc34 zc35 zc37 zc38 zc39 zc40 zc41 zc42 zc43 zc44 zc45 zc46 zc47 zc48 zc49 zc50 zc51 zc52 zc53 zc54 zc55 zc56 zc57 zc58 zc59 zc60 zc61 zc62 zc63 zc64 zc65 zc66 zc67 zc68 zc69 zc70 zc71 zc72 zc73 zc74 zc75 zc77 zc78 zc79 zc80 zc81 zc83 zc84 zc85 zc86 zc87 zc88 zc89 zc90 zc91 zc92 zc93 zc94 zc95 zc96 zc97 zc98 zc99 zc100 zc101 zc103 zc104 zc105 zc107 zc108 zc109 zc110 zc111 zc112 zc113 zc114 zc115 zc116 zc117 zc118 zc119 zc121 zc122 zc124 zc125 zc126 zc128 zc129 zc132 zc133 zc134 zc135 zc136 zc137 zc138 zc139 zc140 zc141 zc142 zc143 zc144 zc145 zc146 zc147 Tryd.underlying0 Tryd.underlying1 Tryd.underlying2 Tryd.underlying3 Tryd.underlying4 Tryd.underlying5 Tryd.underlying6 Tryd.underlying7 Tryd.underlying8 Tryd.underlying9 Tryd.underlying10 Tryd.underlying11 Tryd.underlying12 Tryd.underlying13 Tryd.underlying14 Tryd.underlying15 Tryd.underlying16 Tryd.underlying17 Tryd.underlying18 Tryd.underlying19 Tryd.underlying20 Tryd.underlying21 Tryd.underlying22 Tryd.underlying23 Tryd.underlying24 Tryd.underlying25 Tryd.underlying26 Tryd.underlying27 Tryd.underlying28 Tryd.underlying29 Tryd.underlying30 Tryd.underlying31 Tryd.underlying32 Tryd.underlying33 Tryd.underlying34 Tryd.underlying35 Tryd.underlying36 Tryd.underlying37 Tryd.underlying38 Tryd.underlying39 Tryd.underlying40 Tryd.underlying41 Tryd.underlying42 Tryd.underlying43 Tryd.underlying44 Tryd.underlying45 Tryd.underlying46 Tryd.underlying47 Tryd.underlying48 Tryd.underlying49 Tryd.underlying50 Tryd.underlying51 Tryd.underlying52 Tryd.underlying53 Tryd.underlying54 Tryd.underlying55 Tryd.underlying56 Tryd.underlying57 Tryd.underlying58 Tryd.underlying59 Tryd.underlying60 Tryd.underlying61 Tryd.underlying62 Tryd.underlying63 Tryd.underlying64 Tryd.underlying65 Tryd.underlying66 Tryd.underlying67 Tryd.underlying68 Tryd.underlying69 Tryd.underlying70 Tryd.underlying71 Tryd.underlying72 Tryd.underlying73 Tryd.underlying74 Tryd.underlying75 Tryd.underlying76 Tryd.underlying77 Tryd.underlying78 Tryd.underlying79 Tryd.underlying80 Tryd.underlying81 Tryd.underlying82 Tryd.underlying83 Tryd.underlying84 Tryd.underlying85 Tryd.underlying86 Tryd.underlying87 Tryd.underlying88 Tryd.underlying89 Tryd.underlying90 Tryd.underlying91 Tryd.underlying92 Tryd.underlying93 Tryd.underlying94 Tryd.underlying95 Tryd.underlying96 Tryd.underlying97 Tryd.underlying98 Tryd.underlying99 Tryd.underlying100 Tryd.underlying101 Tryd.underlying102 Tryd.underlying103 Tryd.underlying104 Tryd.underlying105 Tryd.underlying106 Tryd.underlying107 Tryd.underlying108 Tryd.underlying109 Tryd.underlying110 Tryd.underlying111 Tryd.underlying112 Tryd.underlying113 Tryd.underlying114 Tryd.underlying115 Tryd.underlying116 Tryd.underlying117 Tryd.underlying118 Tryd.underlying119 Tryd.underlying120 Tryd.underlying121 Tryd.underlying122 Tryd.underlying123 Tryd.underlying124 Tryd.underlying125 Tryd.underlying126 Tryd.underlying127 Tryd.underlying128 Tryd.underlying129 Tryd.underlying130 Tryd.underlying131 Tryd.underlying132 Tryd.underlying133 Tryd.underlying134 Tryd.underlying135 Tryd.underlying136 Tryd.underlying137 Tryd.underlying138 Tryd.underlying139 Tryd.underlying140 Tryd.underlying141 Tryd.underlying142 Tryd.underlying143 Tryd.underlying144 Tryd.underlying145 Tryd.underlying146 Tryd.underlying147
theorem bd2 : bodied Tryd.prog 2 = true := by kernel_rfl
theorem bd3 : bodied Tryd.prog 3 = true := by kernel_rfl
theorem bd4 : bodied Tryd.prog 4 = true := by kernel_rfl
theorem bd5 : bodied Tryd.prog 5 = true := by kernel_rfl
theorem bd6 : bodied Tryd.prog 6 = true := by kernel_rfl
theorem bd7 : bodied Tryd.prog 7 = true := by kernel_rfl
theorem bd8 : bodied Tryd.prog 8 = true := by kernel_rfl
theorem bd9 : bodied Tryd.prog 9 = true := by kernel_rfl
theorem bd10 : bodied Tryd.prog 10 = true := by kernel_rfl
theorem bd11 : bodied Tryd.prog 11 = true := by kernel_rfl
theorem bd12 : bodied Tryd.prog 12 = true := by kernel_rfl
theorem bd13 : bodied Tryd.prog 13 = true := by kernel_rfl
theorem bd14 : bodied Tryd.prog 14 = true := by kernel_rfl
theorem bd15 : bodied Tryd.prog 15 = true := by kernel_rfl
theorem bd16 : bodied Tryd.prog 16 = true := by kernel_rfl
theorem bd17 : bodied Tryd.prog 17 = true := by kernel_rfl
theorem bd18 : bodied Tryd.prog 18 = true := by kernel_rfl
theorem bd19 : bodied Tryd.prog 19 = true := by kernel_rfl
theorem bd20 : bodied Tryd.prog 20 = true := by kernel_rfl
theorem bd21 : bodied Tryd.prog 21 = true := by kernel_rfl
theorem bd22 : bodied Tryd.prog 22 = true := by kernel_rfl
theorem bd23 : bodied Tryd.prog 23 = true := by kernel_rfl
theorem bd24 : bodied Tryd.prog 24 = true := by kernel_rfl
theorem bd25 : bodied Tryd.prog 25 = true := by kernel_rfl
theorem bd26 : bodied Tryd.prog 26 = true := by kernel_rfl
theorem bd27 : bodied Tryd.prog 27 = true := by kernel_rfl
theorem bd28 : bodied Tryd.prog 28 = true := by kernel_rfl
theorem bd29 : bodied Tryd.prog 29 = true := by kernel_rfl
theorem bd30 : bodied Tryd.prog 30 = true := by kernel_rfl
theorem bd31 : bodied Tryd.prog 31 = true := by kernel_rfl
theorem bd32 : bodied Tryd.prog 32 = true := by kernel_rfl
theorem bd33 : bodied Tryd.prog 33 = true := by kernel_rfl
theorem bd34 : bodied Tryd.prog 34 = true := by kernel_rfl
theorem bd35 : bodied Tryd.prog 35 = true := by kernel_rfl
theorem bd36 : bodied Tryd.prog 36 = true := by kernel_rfl
theorem bd37 : bodied Tryd.prog 37 = true := by kernel_rfl
theorem bd38 : bodied Tryd.prog 38 = true := by kernel_rfl
theorem bd39 : bodied Tryd.prog 39 = true := by kernel_rfl
theorem bd40 : bodied Tryd.prog 40 = true := by kernel_rfl
theorem bd41 : bodied Tryd.prog 41 = true := by kernel_rfl
theorem bd42 : bodied Tryd.prog 42 = true := by kernel_rfl
theorem bd43 : bodied Tryd.prog 43 = true := by kernel_rfl
theorem bd44 : bodied Tryd.prog 44 = true := by kernel_rfl
theorem bd45 : bodied Tryd.prog 45 = true := by kernel_rfl
theorem bd46 : bodied Tryd.prog 46 = true := by kernel_rfl
theorem bd47 : bodied Tryd.prog 47 = true := by kernel_rfl
theorem bd48 : bodied Tryd.prog 48 = true := by kernel_rfl
theorem bd49 : bodied Tryd.prog 49 = true := by kernel_rfl
theorem bd50 : bodied Tryd.prog 50 = true := by kernel_rfl
theorem bd51 : bodied Tryd.prog 51 = true := by kernel_rfl
theorem bd53 : bodied Tryd.prog 53 = true := by kernel_rfl
theorem bd54 : bodied Tryd.prog 54 = true := by kernel_rfl
theorem bd55 : bodied Tryd.prog 55 = true := by kernel_rfl
theorem bd56 : bodied Tryd.prog 56 = true := by kernel_rfl
theorem bd57 : bodied Tryd.prog 57 = true := by kernel_rfl
theorem bd58 : bodied Tryd.prog 58 = true := by kernel_rfl
theorem bd59 : bodied Tryd.prog 59 = true := by kernel_rfl
theorem bd60 : bodied Tryd.prog 60 = true := by kernel_rfl
theorem bd61 : bodied Tryd.prog 61 = true := by kernel_rfl
theorem bd62 : bodied Tryd.prog 62 = true := by kernel_rfl
theorem bd63 : bodied Tryd.prog 63 = true := by kernel_rfl
theorem bd64 : bodied Tryd.prog 64 = true := by kernel_rfl
theorem bd65 : bodied Tryd.prog 65 = true := by kernel_rfl
theorem bd66 : bodied Tryd.prog 66 = true := by kernel_rfl
theorem bd67 : bodied Tryd.prog 67 = true := by kernel_rfl
theorem bd68 : bodied Tryd.prog 68 = true := by kernel_rfl
theorem bd69 : bodied Tryd.prog 69 = true := by kernel_rfl
theorem bd70 : bodied Tryd.prog 70 = true := by kernel_rfl
theorem bd71 : bodied Tryd.prog 71 = true := by kernel_rfl
theorem bd72 : bodied Tryd.prog 72 = true := by kernel_rfl
theorem bd73 : bodied Tryd.prog 73 = true := by kernel_rfl
theorem bd74 : bodied Tryd.prog 74 = true := by kernel_rfl
theorem bd75 : bodied Tryd.prog 75 = true := by kernel_rfl
theorem bd76 : bodied Tryd.prog 76 = true := by kernel_rfl
theorem bd77 : bodied Tryd.prog 77 = true := by kernel_rfl
theorem bd78 : bodied Tryd.prog 78 = true := by kernel_rfl
theorem bd79 : bodied Tryd.prog 79 = true := by kernel_rfl
theorem bd80 : bodied Tryd.prog 80 = true := by kernel_rfl
theorem bd81 : bodied Tryd.prog 81 = true := by kernel_rfl
theorem bd82 : bodied Tryd.prog 82 = true := by kernel_rfl
theorem bd83 : bodied Tryd.prog 83 = true := by kernel_rfl
theorem bd84 : bodied Tryd.prog 84 = true := by kernel_rfl
theorem bd85 : bodied Tryd.prog 85 = true := by kernel_rfl
theorem bd86 : bodied Tryd.prog 86 = true := by kernel_rfl
theorem bd87 : bodied Tryd.prog 87 = true := by kernel_rfl
theorem bd88 : bodied Tryd.prog 88 = true := by kernel_rfl
theorem bd89 : bodied Tryd.prog 89 = true := by kernel_rfl
theorem bd90 : bodied Tryd.prog 90 = true := by kernel_rfl
theorem bd91 : bodied Tryd.prog 91 = true := by kernel_rfl
theorem bd92 : bodied Tryd.prog 92 = true := by kernel_rfl
theorem bd93 : bodied Tryd.prog 93 = true := by kernel_rfl
theorem bd94 : bodied Tryd.prog 94 = true := by kernel_rfl
theorem bd96 : bodied Tryd.prog 96 = true := by kernel_rfl
theorem bd97 : bodied Tryd.prog 97 = true := by kernel_rfl
theorem bd98 : bodied Tryd.prog 98 = true := by kernel_rfl
theorem bd100 : bodied Tryd.prog 100 = true := by kernel_rfl
theorem bd101 : bodied Tryd.prog 101 = true := by kernel_rfl
theorem bd103 : bodied Tryd.prog 103 = true := by kernel_rfl
theorem bd124 : bodied Tryd.prog 124 = true := by kernel_rfl
end Go.Proofs.YtjcidnbgbdibaaaDoor
