/- Facts on the tables of the program, each by the kernel: sizes, zero values, which functions have bodies. Conditions: none. -/
import Derived.Test.YtaooopaemphfjaaGreatDoorAb4
import Derived.Test.YtaooopaemphfjaaGreatDoorProg
import Derived.KernelRfl
set_option linter.unusedVariables false
set_option linter.unusedSimpArgs false
namespace Go.Proofs.YtaooopaemphfjaaGreatDoor
open Go Go.Abs Go.Proofs
theorem tz0:tsize Tryz.prog 0=some 1:=by kernel_rfl
theorem tz3:tsize Tryz.prog 3=some 1:=by kernel_rfl
theorem zc3:zeroC Tryz.prog 3=some [.int .i64 0]:=by kernel_rfl
theorem tz4:tsize Tryz.prog 4=some 1:=by kernel_rfl
theorem zc4:zeroC Tryz.prog 4=some [.bool false]:=by kernel_rfl
theorem tz5:tsize Tryz.prog 5=some 1:=by kernel_rfl
theorem zc5:zeroC Tryz.prog 5=some [.int .u8 0]:=by kernel_rfl
theorem tz9:tsize Tryz.prog 9=some 1:=by kernel_rfl
theorem zc9:zeroC Tryz.prog 9=some [.str []]:=by kernel_rfl
theorem tz22:tsize Tryz.prog 22=some 1:=by kernel_rfl
theorem zc22:zeroC Tryz.prog 22=some [.nilsl]:=by kernel_rfl
theorem tz25:tsize Tryz.prog 25=some 1:=by kernel_rfl
theorem zc25:zeroC Tryz.prog 25=some [.nilptr]:=by kernel_rfl
theorem tz26:tsize Tryz.prog 26=some 1:=by kernel_rfl
theorem zc26:zeroC Tryz.prog 26=some [.int .i64 0]:=by kernel_rfl
theorem tz29:tsize Tryz.prog 29=some 1:=by kernel_rfl
theorem zc29:zeroC Tryz.prog 29=some [.nilptr]:=by kernel_rfl
theorem tz34:tsize Tryz.prog 34=some 1:=by kernel_rfl
theorem zc34:zeroC Tryz.prog 34=some [.nilptr]:=by kernel_rfl
theorem tz36:tsize Tryz.prog 36=some 1:=by kernel_rfl
theorem zc36:zeroC Tryz.prog 36=some [.nilptr]:=by kernel_rfl
theorem tz43:tsize Tryz.prog 43=some 1:=by kernel_rfl
theorem zc43:zeroC Tryz.prog 43=some [.nilsl]:=by kernel_rfl
theorem tz44:tsize Tryz.prog 44=some 1:=by kernel_rfl
theorem zc44:zeroC Tryz.prog 44=some [.nilsl]:=by kernel_rfl
theorem tz47:tsize Tryz.prog 47=some 1:=by kernel_rfl
theorem zc47:zeroC Tryz.prog 47=some [.nilsl]:=by kernel_rfl
theorem tz54:tsize Tryz.prog 54=some 1:=by kernel_rfl
theorem zc54:zeroC Tryz.prog 54=some [.nilfunc]:=by kernel_rfl
theorem tz58:tsize Tryz.prog 58=some 3:=by kernel_rfl
theorem zc58:zeroC Tryz.prog 58=some [.str [],.str [],.bool false]:=by kernel_rfl
theorem tz60:tsize Tryz.prog 60=some 1:=by kernel_rfl
theorem zc60:zeroC Tryz.prog 60=some [.nilmap]:=by kernel_rfl
theorem tz61:tsize Tryz.prog 61=some 1:=by kernel_rfl
theorem zc61:zeroC Tryz.prog 61=some [.nilsl]:=by kernel_rfl
theorem tz62:tsize Tryz.prog 62=some 1:=by kernel_rfl
theorem zc62:zeroC Tryz.prog 62=some [.int .u64 0]:=by kernel_rfl
theorem tz64:tsize Tryz.prog 64=some 8:=by kernel_rfl
theorem zc64:zeroC Tryz.prog 64=some [.bool false,.int .i64 0,.nilmap,.nilmap,.nilsl,.int .u64 0,.bool false,.int .i64 0]:=by kernel_rfl
theorem tz65:tsize Tryz.prog 65=some 1:=by kernel_rfl
theorem zc65:zeroC Tryz.prog 65=some [.nilptr]:=by kernel_rfl
theorem tz66:tsize Tryz.prog 66=some 1:=by kernel_rfl
theorem zc66:zeroC Tryz.prog 66=some [.nilsl]:=by kernel_rfl
theorem tz70:tsize Tryz.prog 70=some 1:=by kernel_rfl
theorem zc70:zeroC Tryz.prog 70=some [.nilptr]:=by kernel_rfl
theorem tz72:tsize Tryz.prog 72=some 3:=by kernel_rfl
theorem zc72:zeroC Tryz.prog 72=some [.nilptr,.nilptr,.int .i64 0]:=by kernel_rfl
theorem tz80:tsize Tryz.prog 80=some 1:=by kernel_rfl
theorem zc80:zeroC Tryz.prog 80=some [.nilfunc]:=by kernel_rfl
theorem tz81:tsize Tryz.prog 81=some 1:=by kernel_rfl
theorem zc81:zeroC Tryz.prog 81=some [.int .u32 0]:=by kernel_rfl
theorem tz83:tsize Tryz.prog 83=some 6:=by kernel_rfl
theorem zc83:zeroC Tryz.prog 83=some [.str [],.str [],.int .u32 0,.int .i64 0,.nilptr,.nilptr]:=by kernel_rfl
theorem tz85:tsize Tryz.prog 85=some 1:=by kernel_rfl
theorem zc85:zeroC Tryz.prog 85=some [.nilfunc]:=by kernel_rfl
theorem tz87:tsize Tryz.prog 87=some 1:=by kernel_rfl
theorem zc87:zeroC Tryz.prog 87=some [.nilsl]:=by kernel_rfl
theorem tz93:tsize Tryz.prog 93=some 1:=by kernel_rfl
theorem zc93:zeroC Tryz.prog 93=some [.nilptr]:=by kernel_rfl
theorem tz97:tsize Tryz.prog 97=some 1:=by kernel_rfl
theorem zc97:zeroC Tryz.prog 97=some [.nilfunc]:=by kernel_rfl
theorem tz98:tsize Tryz.prog 98=some 1:=by kernel_rfl
theorem zc98:zeroC Tryz.prog 98=some [.nilfunc]:=by kernel_rfl
theorem tz100:tsize Tryz.prog 100=some 1:=by kernel_rfl
theorem zc100:zeroC Tryz.prog 100=some [.nilfunc]:=by kernel_rfl
theorem tz103:tsize Tryz.prog 103=some 3:=by kernel_rfl
theorem zc103:zeroC Tryz.prog 103=some [.nilsl,.nilsl,.int .u64 0]:=by kernel_rfl
theorem tz106:tsize Tryz.prog 106=some 1:=by kernel_rfl
theorem zc106:zeroC Tryz.prog 106=some [.int .i64 0]:=by kernel_rfl
theorem tz108:tsize Tryz.prog 108=some 5:=by kernel_rfl
theorem zc108:zeroC Tryz.prog 108=some [.int .i64 0,.nilptr,.str [],.int .i64 0,.int .i64 0]:=by kernel_rfl
theorem tz129:tsize Tryz.prog 129=some 1:=by kernel_rfl
theorem zc129:zeroC Tryz.prog 129=some [.nilfunc]:=by kernel_rfl
theorem tz131:tsize Tryz.prog 131=some 1:=by kernel_rfl
theorem zc131:zeroC Tryz.prog 131=some [.nilfunc]:=by kernel_rfl
theorem tz135:tsize Tryz.prog 135=some 1:=by kernel_rfl
theorem zc135:zeroC Tryz.prog 135=some [.nilfunc]:=by kernel_rfl
theorem tz137:tsize Tryz.prog 137=some 1:=by kernel_rfl
theorem zc137:zeroC Tryz.prog 137=some [.nilfunc]:=by kernel_rfl
theorem tz138:tsize Tryz.prog 138=some 1:=by kernel_rfl
theorem zc138:zeroC Tryz.prog 138=some [.str []]:=by kernel_rfl
theorem tz145:tsize Tryz.prog 145=some 1:=by kernel_rfl
theorem zc145:zeroC Tryz.prog 145=some [.nilptr]:=by kernel_rfl
theorem tz150:tsize Tryz.prog 150=some 1:=by kernel_rfl
theorem zc150:zeroC Tryz.prog 150=some [.nilfunc]:=by kernel_rfl
theorem tz151:tsize Tryz.prog 151=some 1:=by kernel_rfl
theorem zc151:zeroC Tryz.prog 151=some [.int .u64 0]:=by kernel_rfl
theorem tz153:tsize Tryz.prog 153=some 1:=by kernel_rfl
theorem zc153:zeroC Tryz.prog 153=some [.nilptr]:=by kernel_rfl
theorem tz167:tsize Tryz.prog 167=some 1:=by kernel_rfl
theorem zc167:zeroC Tryz.prog 167=some [.nilsl]:=by kernel_rfl
theorem tz168:tsize Tryz.prog 168=some 1:=by kernel_rfl
theorem zc168:zeroC Tryz.prog 168=some [.nilptr]:=by kernel_rfl
theorem tz170:tsize Tryz.prog 170=some 3:=by kernel_rfl
theorem zc170:zeroC Tryz.prog 170=some [.nilsl,.int .i64 0,.bool false]:=by kernel_rfl
theorem tz172:tsize Tryz.prog 172=some 1:=by kernel_rfl
theorem zc172:zeroC Tryz.prog 172=some [.nilptr]:=by kernel_rfl
theorem tz177:tsize Tryz.prog 177=some 1:=by kernel_rfl
theorem zc177:zeroC Tryz.prog 177=some [.nilsl]:=by kernel_rfl
theorem tz183:tsize Tryz.prog 183=some 1:=by kernel_rfl
theorem zc183:zeroC Tryz.prog 183=some [.int .i64 0]:=by kernel_rfl
theorem tz184:tsize Tryz.prog 184=some 1:=by kernel_rfl
theorem tz189:tsize Tryz.prog 189=some 1:=by kernel_rfl
theorem tz198:tsize Tryz.prog 198=some 1:=by kernel_rfl
theorem zc198:zeroC Tryz.prog 198=some [.int .u64 0]:=by kernel_rfl
theorem tz201:tsize Tryz.prog 201=some 1:=by kernel_rfl
theorem zc201:zeroC Tryz.prog 201=some [.nilptr]:=by kernel_rfl
theorem tz205:tsize Tryz.prog 205=some 1:=by kernel_rfl
theorem zc205:zeroC Tryz.prog 205=some [.nilptr]:=by kernel_rfl
theorem tz206:tsize Tryz.prog 206=some 1:=by kernel_rfl
attribute [go_sem] tz0 tz3 tz4 tz5 tz9 tz22 tz25 tz26 tz29 tz34 tz36 tz43 tz44 tz47 tz54 tz58 tz60 tz61 tz62 tz64 tz65 tz66 tz70 tz72 tz80 tz81 tz83 tz85 tz87 tz93 tz97 tz98 tz100 tz103 tz106 tz108 tz129 tz131 tz135 tz137 tz138 tz145 tz150 tz151 tz153 tz167 tz168 tz170 tz172 tz177 tz183 tz184 tz189 tz198 tz201 tz205 tz206 zc3 zc4 zc5 zc9 zc22 zc25 zc26 zc29 zc34 zc36 zc43 zc44 zc47 zc54 zc58 zc60 zc61 zc62 zc64 zc65 zc66 zc70 zc72 zc80 zc81 zc83 zc85 zc87 zc93 zc97 zc98 zc100 zc103 zc106 zc108 zc129 zc131 zc135 zc137 zc138 zc145 zc150 zc151 zc153 zc167 zc168 zc170 zc172 zc177 zc183 zc198 zc201 zc205 Tryz.underlying0 Tryz.underlying3 Tryz.underlying4 Tryz.underlying5 Tryz.underlying9 Tryz.underlying22 Tryz.underlying25 Tryz.underlying26 Tryz.underlying29 Tryz.underlying34 Tryz.underlying36 Tryz.underlying43 Tryz.underlying44 Tryz.underlying47 Tryz.underlying54 Tryz.underlying58 Tryz.underlying60 Tryz.underlying61 Tryz.underlying62 Tryz.underlying64 Tryz.underlying65 Tryz.underlying66 Tryz.underlying70 Tryz.underlying72 Tryz.underlying80 Tryz.underlying81 Tryz.underlying83 Tryz.underlying85 Tryz.underlying87 Tryz.underlying93 Tryz.underlying97 Tryz.underlying98 Tryz.underlying100 Tryz.underlying103 Tryz.underlying106 Tryz.underlying108 Tryz.underlying129 Tryz.underlying131 Tryz.underlying135 Tryz.underlying137 Tryz.underlying138 Tryz.underlying145 Tryz.underlying150 Tryz.underlying151 Tryz.underlying153 Tryz.underlying167 Tryz.underlying168 Tryz.underlying170 Tryz.underlying172 Tryz.underlying177 Tryz.underlying183 Tryz.underlying184 Tryz.underlying189 Tryz.underlying198 Tryz.underlying201 Tryz.underlying205 Tryz.underlying206
theorem bd4:bodied Tryz.prog 4=true:=by kernel_rfl
theorem bd7:bodied Tryz.prog 7=true:=by kernel_rfl
theorem bd8:bodied Tryz.prog 8=true:=by kernel_rfl
theorem bd9:bodied Tryz.prog 9=true:=by kernel_rfl
theorem bd10:bodied Tryz.prog 10=true:=by kernel_rfl
theorem bd11:bodied Tryz.prog 11=true:=by kernel_rfl
theorem bd12:bodied Tryz.prog 12=true:=by kernel_rfl
theorem bd13:bodied Tryz.prog 13=true:=by kernel_rfl
theorem bd15:bodied Tryz.prog 15=true:=by kernel_rfl
theorem bd17:bodied Tryz.prog 17=true:=by kernel_rfl
theorem bd18:bodied Tryz.prog 18=true:=by kernel_rfl
theorem bd19:bodied Tryz.prog 19=true:=by kernel_rfl
theorem bd20:bodied Tryz.prog 20=true:=by kernel_rfl
theorem bd21:bodied Tryz.prog 21=true:=by kernel_rfl
theorem bd22:bodied Tryz.prog 22=true:=by kernel_rfl
theorem bd25:bodied Tryz.prog 25=true:=by kernel_rfl
theorem bd26:bodied Tryz.prog 26=true:=by kernel_rfl
theorem bd27:bodied Tryz.prog 27=true:=by kernel_rfl
theorem bd28:bodied Tryz.prog 28=true:=by kernel_rfl
theorem bd29:bodied Tryz.prog 29=true:=by kernel_rfl
theorem bd30:bodied Tryz.prog 30=true:=by kernel_rfl
theorem bd31:bodied Tryz.prog 31=true:=by kernel_rfl
theorem bd32:bodied Tryz.prog 32=true:=by kernel_rfl
theorem bd33:bodied Tryz.prog 33=true:=by kernel_rfl
theorem bd34:bodied Tryz.prog 34=true:=by kernel_rfl
theorem bd35:bodied Tryz.prog 35=true:=by kernel_rfl
theorem bd36:bodied Tryz.prog 36=true:=by kernel_rfl
theorem bd37:bodied Tryz.prog 37=true:=by kernel_rfl
theorem bd38:bodied Tryz.prog 38=true:=by kernel_rfl
theorem bd39:bodied Tryz.prog 39=true:=by kernel_rfl
theorem bd40:bodied Tryz.prog 40=true:=by kernel_rfl
theorem bd41:bodied Tryz.prog 41=true:=by kernel_rfl
theorem bd42:bodied Tryz.prog 42=true:=by kernel_rfl
theorem bd43:bodied Tryz.prog 43=true:=by kernel_rfl
theorem bd44:bodied Tryz.prog 44=true:=by kernel_rfl
theorem bd45:bodied Tryz.prog 45=true:=by kernel_rfl
theorem bd46:bodied Tryz.prog 46=true:=by kernel_rfl
theorem bd47:bodied Tryz.prog 47=true:=by kernel_rfl
theorem bd48:bodied Tryz.prog 48=true:=by kernel_rfl
theorem bd50:bodied Tryz.prog 50=true:=by kernel_rfl
theorem bd51:bodied Tryz.prog 51=true:=by kernel_rfl
theorem bd52:bodied Tryz.prog 52=true:=by kernel_rfl
theorem bd53:bodied Tryz.prog 53=true:=by kernel_rfl
theorem bd54:bodied Tryz.prog 54=true:=by kernel_rfl
theorem bd55:bodied Tryz.prog 55=true:=by kernel_rfl
theorem bd56:bodied Tryz.prog 56=true:=by kernel_rfl
theorem bd57:bodied Tryz.prog 57=true:=by kernel_rfl
theorem bd58:bodied Tryz.prog 58=true:=by kernel_rfl
theorem bd59:bodied Tryz.prog 59=true:=by kernel_rfl
theorem bd60:bodied Tryz.prog 60=true:=by kernel_rfl
theorem bd61:bodied Tryz.prog 61=true:=by kernel_rfl
theorem bd62:bodied Tryz.prog 62=true:=by kernel_rfl
theorem bd63:bodied Tryz.prog 63=true:=by kernel_rfl
theorem bd64:bodied Tryz.prog 64=true:=by kernel_rfl
theorem bd65:bodied Tryz.prog 65=true:=by kernel_rfl
theorem bd66:bodied Tryz.prog 66=true:=by kernel_rfl
theorem bd67:bodied Tryz.prog 67=true:=by kernel_rfl
theorem bd68:bodied Tryz.prog 68=true:=by kernel_rfl
theorem bd69:bodied Tryz.prog 69=true:=by kernel_rfl
theorem bd70:bodied Tryz.prog 70=true:=by kernel_rfl
theorem bd71:bodied Tryz.prog 71=true:=by kernel_rfl
theorem bd72:bodied Tryz.prog 72=true:=by kernel_rfl
theorem bd73:bodied Tryz.prog 73=true:=by kernel_rfl
theorem bd74:bodied Tryz.prog 74=true:=by kernel_rfl
theorem bd75:bodied Tryz.prog 75=true:=by kernel_rfl
theorem bd76:bodied Tryz.prog 76=true:=by kernel_rfl
theorem bd77:bodied Tryz.prog 77=true:=by kernel_rfl
theorem bd78:bodied Tryz.prog 78=true:=by kernel_rfl
theorem bd79:bodied Tryz.prog 79=true:=by kernel_rfl
theorem bd80:bodied Tryz.prog 80=true:=by kernel_rfl
theorem bd81:bodied Tryz.prog 81=true:=by kernel_rfl
theorem bd82:bodied Tryz.prog 82=true:=by kernel_rfl
theorem bd87:bodied Tryz.prog 87=true:=by kernel_rfl
theorem bd88:bodied Tryz.prog 88=true:=by kernel_rfl
theorem bd89:bodied Tryz.prog 89=true:=by kernel_rfl
theorem bd90:bodied Tryz.prog 90=true:=by kernel_rfl
theorem bd91:bodied Tryz.prog 91=true:=by kernel_rfl
theorem bd92:bodied Tryz.prog 92=true:=by kernel_rfl
theorem bd93:bodied Tryz.prog 93=true:=by kernel_rfl
theorem bd94:bodied Tryz.prog 94=true:=by kernel_rfl
theorem bd95:bodied Tryz.prog 95=true:=by kernel_rfl
theorem bd96:bodied Tryz.prog 96=true:=by kernel_rfl
theorem bd97:bodied Tryz.prog 97=true:=by kernel_rfl
theorem bd98:bodied Tryz.prog 98=true:=by kernel_rfl
theorem bd99:bodied Tryz.prog 99=true:=by kernel_rfl
theorem bd100:bodied Tryz.prog 100=true:=by kernel_rfl
theorem bd101:bodied Tryz.prog 101=true:=by kernel_rfl
theorem bd102:bodied Tryz.prog 102=true:=by kernel_rfl
theorem bd103:bodied Tryz.prog 103=true:=by kernel_rfl
theorem bd104:bodied Tryz.prog 104=true:=by kernel_rfl
theorem bd105:bodied Tryz.prog 105=true:=by kernel_rfl
theorem bd106:bodied Tryz.prog 106=true:=by kernel_rfl
theorem bd107:bodied Tryz.prog 107=true:=by kernel_rfl
theorem bd108:bodied Tryz.prog 108=true:=by kernel_rfl
theorem bd109:bodied Tryz.prog 109=true:=by kernel_rfl
theorem bd110:bodied Tryz.prog 110=true:=by kernel_rfl
theorem bd111:bodied Tryz.prog 111=true:=by kernel_rfl
theorem bd112:bodied Tryz.prog 112=true:=by kernel_rfl
theorem bd113:bodied Tryz.prog 113=true:=by kernel_rfl
theorem bd114:bodied Tryz.prog 114=true:=by kernel_rfl
theorem bd115:bodied Tryz.prog 115=true:=by kernel_rfl
theorem bd116:bodied Tryz.prog 116=true:=by kernel_rfl
theorem bd117:bodied Tryz.prog 117=true:=by kernel_rfl
theorem bd118:bodied Tryz.prog 118=true:=by kernel_rfl
theorem bd119:bodied Tryz.prog 119=true:=by kernel_rfl
theorem bd120:bodied Tryz.prog 120=true:=by kernel_rfl
theorem bd121:bodied Tryz.prog 121=true:=by kernel_rfl
theorem bd122:bodied Tryz.prog 122=true:=by kernel_rfl
theorem bd123:bodied Tryz.prog 123=true:=by kernel_rfl
theorem bd124:bodied Tryz.prog 124=true:=by kernel_rfl
theorem bd125:bodied Tryz.prog 125=true:=by kernel_rfl
theorem bd129:bodied Tryz.prog 129=true:=by kernel_rfl
theorem bd130:bodied Tryz.prog 130=true:=by kernel_rfl
theorem bd131:bodied Tryz.prog 131=true:=by kernel_rfl
theorem bd132:bodied Tryz.prog 132=true:=by kernel_rfl
theorem bd133:bodied Tryz.prog 133=true:=by kernel_rfl
theorem bd134:bodied Tryz.prog 134=true:=by kernel_rfl
theorem bd135:bodied Tryz.prog 135=true:=by kernel_rfl
theorem bd136:bodied Tryz.prog 136=true:=by kernel_rfl
theorem bd137:bodied Tryz.prog 137=true:=by kernel_rfl
theorem bd138:bodied Tryz.prog 138=true:=by kernel_rfl
theorem bd139:bodied Tryz.prog 139=true:=by kernel_rfl
theorem bd140:bodied Tryz.prog 140=true:=by kernel_rfl
theorem bd142:bodied Tryz.prog 142=true:=by kernel_rfl
theorem bd143:bodied Tryz.prog 143=true:=by kernel_rfl
theorem bd144:bodied Tryz.prog 144=true:=by kernel_rfl
theorem bd145:bodied Tryz.prog 145=true:=by kernel_rfl
theorem bd146:bodied Tryz.prog 146=true:=by kernel_rfl
theorem bd158:bodied Tryz.prog 158=true:=by kernel_rfl
theorem bd159:bodied Tryz.prog 159=true:=by kernel_rfl
theorem bd160:bodied Tryz.prog 160=true:=by kernel_rfl
theorem bd162:bodied Tryz.prog 162=true:=by kernel_rfl
theorem bd169:bodied Tryz.prog 169=true:=by kernel_rfl
theorem bd170:bodied Tryz.prog 170=true:=by kernel_rfl
theorem bd171:bodied Tryz.prog 171=true:=by kernel_rfl
theorem bd173:bodied Tryz.prog 173=true:=by kernel_rfl
theorem bd178:bodied Tryz.prog 178=true:=by kernel_rfl
theorem bd179:bodied Tryz.prog 179=true:=by kernel_rfl
theorem bd181:bodied Tryz.prog 181=true:=by kernel_rfl
end Go.Proofs.YtaooopaemphfjaaGreatDoor