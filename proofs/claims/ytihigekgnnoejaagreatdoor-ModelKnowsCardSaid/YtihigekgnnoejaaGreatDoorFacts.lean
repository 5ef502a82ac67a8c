/- Facts on the tables of the program, each by the kernel: sizes, zero values, which functions have bodies. Conditions: none. -/
import Derived.Test.YtihigekgnnoejaaGreatDoorAb5
import Derived.Test.YtihigekgnnoejaaGreatDoorProg
import Derived.KernelRfl
set_option linter.unusedVariables false
set_option linter.unusedSimpArgs false
namespace Go.Proofs.YtihigekgnnoejaaGreatDoor
open Go Go.Abs Go.Proofs
theorem tz0:tsize Tryz.prog 0=some 1:=by kernel_rfl
theorem tz2:tsize Tryz.prog 2=some 1:=by kernel_rfl
theorem zc2:zeroC Tryz.prog 2=some [.int .i64 0]:=by kernel_rfl
theorem tz3:tsize Tryz.prog 3=some 1:=by kernel_rfl
theorem zc3:zeroC Tryz.prog 3=some [.int .i64 0]:=by kernel_rfl
theorem tz4:tsize Tryz.prog 4=some 1:=by kernel_rfl
theorem zc4:zeroC Tryz.prog 4=some [.bool false]:=by kernel_rfl
theorem tz5:tsize Tryz.prog 5=some 1:=by kernel_rfl
theorem zc5:zeroC Tryz.prog 5=some [.int .u8 0]:=by kernel_rfl
theorem tz9:tsize Tryz.prog 9=some 1:=by kernel_rfl
theorem zc9:zeroC Tryz.prog 9=some [.str []]:=by kernel_rfl
theorem tz20:tsize Tryz.prog 20=some 1:=by kernel_rfl
theorem zc20:zeroC Tryz.prog 20=some [.nilif]:=by kernel_rfl
theorem tz21:tsize Tryz.prog 21=some 1:=by kernel_rfl
theorem zc21:zeroC Tryz.prog 21=some [.int .i32 0]:=by kernel_rfl
theorem tz22:tsize Tryz.prog 22=some 1:=by kernel_rfl
theorem zc22:zeroC Tryz.prog 22=some [.nilsl]:=by kernel_rfl
theorem tz25:tsize Tryz.prog 25=some 1:=by kernel_rfl
theorem zc25:zeroC Tryz.prog 25=some [.nilsl]:=by kernel_rfl
theorem tz26:tsize Tryz.prog 26=some 1:=by kernel_rfl
theorem zc26:zeroC Tryz.prog 26=some [.nilsl]:=by kernel_rfl
theorem tz28:tsize Tryz.prog 28=some 2:=by kernel_rfl
theorem zc28:zeroC Tryz.prog 28=some [.nilsl,.nilsl]:=by kernel_rfl
theorem tz31:tsize Tryz.prog 31=some 1:=by kernel_rfl
theorem zc31:zeroC Tryz.prog 31=some [.nilsl]:=by kernel_rfl
theorem tz32:tsize Tryz.prog 32=some 1:=by kernel_rfl
theorem zc32:zeroC Tryz.prog 32=some [.nilsl]:=by kernel_rfl
theorem tz34:tsize Tryz.prog 34=some 3:=by kernel_rfl
theorem zc34:zeroC Tryz.prog 34=some [.int .i64 0,.int .i64 0,.nilsl]:=by kernel_rfl
theorem tz36:tsize Tryz.prog 36=some 7:=by kernel_rfl
theorem zc36:zeroC Tryz.prog 36=some [.str [],.nilsl,.int .i64 0,.bool false,.int .i64 0,.int .i64 0,.nilsl]:=by kernel_rfl
theorem tz38:tsize Tryz.prog 38=some 18:=by kernel_rfl
theorem tz40:tsize Tryz.prog 40=some 3:=by kernel_rfl
theorem zc40:zeroC Tryz.prog 40=some [.int .i64 0,.str [],.int .i64 0]:=by kernel_rfl
theorem tz41:tsize Tryz.prog 41=some 1:=by kernel_rfl
theorem zc41:zeroC Tryz.prog 41=some [.nilsl]:=by kernel_rfl
theorem tz43:tsize Tryz.prog 43=some 2:=by kernel_rfl
theorem zc43:zeroC Tryz.prog 43=some [.int .i64 0,.nilsl]:=by kernel_rfl
theorem tz44:tsize Tryz.prog 44=some 1:=by kernel_rfl
theorem zc44:zeroC Tryz.prog 44=some [.nilsl]:=by kernel_rfl
theorem tz46:tsize Tryz.prog 46=some 30:=by kernel_rfl
theorem tz49:tsize Tryz.prog 49=some 12:=by kernel_rfl
theorem zc49:zeroC Tryz.prog 49=some [.int .i64 0,.str [],.str [],.str [],.nilsl,.int .i64 0,.bool false,.int .i64 0,.int .i64 0,.nilsl,.nilsl,.int .i64 0]:=by kernel_rfl
theorem tz50:tsize Tryz.prog 50=some 1:=by kernel_rfl
theorem zc50:zeroC Tryz.prog 50=some [.nilfunc]:=by kernel_rfl
theorem tz62:tsize Tryz.prog 62=some 1:=by kernel_rfl
theorem zc62:zeroC Tryz.prog 62=some [.int .u64 0]:=by kernel_rfl
theorem tz64:tsize Tryz.prog 64=some 2:=by kernel_rfl
theorem zc64:zeroC Tryz.prog 64=some [.int .i64 0,.int .u64 0]:=by kernel_rfl
theorem tz67:tsize Tryz.prog 67=some 1:=by kernel_rfl
theorem zc67:zeroC Tryz.prog 67=some [.nilptr]:=by kernel_rfl
theorem tz69:tsize Tryz.prog 69=some 1:=by kernel_rfl
theorem zc69:zeroC Tryz.prog 69=some [.nilfunc]:=by kernel_rfl
theorem tz70:tsize Tryz.prog 70=some 1:=by kernel_rfl
theorem zc70:zeroC Tryz.prog 70=some [.nilmap]:=by kernel_rfl
theorem tz73:tsize Tryz.prog 73=some 2:=by kernel_rfl
theorem zc73:zeroC Tryz.prog 73=some [.nilsl,.nilsl]:=by kernel_rfl
theorem tz75:tsize Tryz.prog 75=some 3:=by kernel_rfl
theorem zc75:zeroC Tryz.prog 75=some [.int .i64 0,.str [],.str []]:=by kernel_rfl
theorem tz78:tsize Tryz.prog 78=some 1:=by kernel_rfl
theorem zc78:zeroC Tryz.prog 78=some [.nilfunc]:=by kernel_rfl
theorem tz82:tsize Tryz.prog 82=some 1:=by kernel_rfl
theorem zc82:zeroC Tryz.prog 82=some [.nilsl]:=by kernel_rfl
theorem tz84:tsize Tryz.prog 84=some 2:=by kernel_rfl
theorem zc84:zeroC Tryz.prog 84=some [.str [],.nilsl]:=by kernel_rfl
theorem tz86:tsize Tryz.prog 86=some 1:=by kernel_rfl
theorem zc86:zeroC Tryz.prog 86=some [.nilfunc]:=by kernel_rfl
theorem tz87:tsize Tryz.prog 87=some 1:=by kernel_rfl
theorem zc87:zeroC Tryz.prog 87=some [.nilfunc]:=by kernel_rfl
theorem tz89:tsize Tryz.prog 89=some 1:=by kernel_rfl
theorem zc89:zeroC Tryz.prog 89=some [.int .i64 0]:=by kernel_rfl
theorem tz91:tsize Tryz.prog 91=some 17:=by kernel_rfl
theorem tz97:tsize Tryz.prog 97=some 1:=by kernel_rfl
theorem zc97:zeroC Tryz.prog 97=some [.nilfunc]:=by kernel_rfl
theorem tz101:tsize Tryz.prog 101=some 1:=by kernel_rfl
theorem zc101:zeroC Tryz.prog 101=some [.nilfunc]:=by kernel_rfl
theorem tz103:tsize Tryz.prog 103=some 32:=by kernel_rfl
theorem tz104:tsize Tryz.prog 104=some 32:=by kernel_rfl
theorem tz110:tsize Tryz.prog 110=some 1:=by kernel_rfl
theorem zc110:zeroC Tryz.prog 110=some [.nilmap]:=by kernel_rfl
theorem tz123:tsize Tryz.prog 123=some 1:=by kernel_rfl
theorem zc123:zeroC Tryz.prog 123=some [.nilptr]:=by kernel_rfl
theorem tz131:tsize Tryz.prog 131=some 1:=by kernel_rfl
theorem zc131:zeroC Tryz.prog 131=some [.nilfunc]:=by kernel_rfl
theorem tz155:tsize Tryz.prog 155=some 1:=by kernel_rfl
theorem zc155:zeroC Tryz.prog 155=some [.nilfunc]:=by kernel_rfl
theorem tz156:tsize Tryz.prog 156=some 1:=by kernel_rfl
theorem zc156:zeroC Tryz.prog 156=some [.int .u64 0]:=by kernel_rfl
theorem tz158:tsize Tryz.prog 158=some 1:=by kernel_rfl
theorem zc158:zeroC Tryz.prog 158=some [.nilfunc]:=by kernel_rfl
theorem tz160:tsize Tryz.prog 160=some 1:=by kernel_rfl
theorem zc160:zeroC Tryz.prog 160=some [.nilfunc]:=by kernel_rfl
theorem tz162:tsize Tryz.prog 162=some 0:=by kernel_rfl
theorem zc162:zeroC Tryz.prog 162=some []:=by kernel_rfl
theorem tz174:tsize Tryz.prog 174=some 1:=by kernel_rfl
theorem zc174:zeroC Tryz.prog 174=some [.nilsl]:=by kernel_rfl
theorem tz175:tsize Tryz.prog 175=some 1:=by kernel_rfl
theorem zc175:zeroC Tryz.prog 175=some [.nilfunc]:=by kernel_rfl
theorem tz177:tsize Tryz.prog 177=some 1:=by kernel_rfl
theorem zc177:zeroC Tryz.prog 177=some [.str []]:=by kernel_rfl
theorem tz179:tsize Tryz.prog 179=some 2:=by kernel_rfl
theorem zc179:zeroC Tryz.prog 179=some [.str [],.str []]:=by kernel_rfl
theorem tz180:tsize Tryz.prog 180=some 1:=by kernel_rfl
theorem zc180:zeroC Tryz.prog 180=some [.nilsl]:=by kernel_rfl
theorem tz193:tsize Tryz.prog 193=some 1:=by kernel_rfl
theorem zc193:zeroC Tryz.prog 193=some [.nilif]:=by kernel_rfl
theorem tz194:tsize Tryz.prog 194=some 1:=by kernel_rfl
theorem tz205:tsize Tryz.prog 205=some 1:=by kernel_rfl
theorem zc205:zeroC Tryz.prog 205=some [.nilsl]:=by kernel_rfl
theorem tz211:tsize Tryz.prog 211=some 7:=by kernel_rfl
theorem zc211:zeroC Tryz.prog 211=some [.str [],.nilsl,.int .i64 0,.bool false,.int .i64 0,.int .i64 0,.nilsl]:=by kernel_rfl
theorem tz213:tsize Tryz.prog 213=some 1:=by kernel_rfl
theorem zc213:zeroC Tryz.prog 213=some [.nilsl]:=by kernel_rfl
theorem tz217:tsize Tryz.prog 217=some 1:=by kernel_rfl
theorem zc217:zeroC Tryz.prog 217=some [.int .i64 0]:=by kernel_rfl
theorem tz218:tsize Tryz.prog 218=some 1:=by kernel_rfl
theorem zc218:zeroC Tryz.prog 218=some [.nilsl]:=by kernel_rfl
theorem tz219:tsize Tryz.prog 219=some 1:=by kernel_rfl
theorem tz221:tsize Tryz.prog 221=some 1:=by kernel_rfl
theorem zc221:zeroC Tryz.prog 221=some [.nilptr]:=by kernel_rfl
theorem tz225:tsize Tryz.prog 225=some 1:=by kernel_rfl
theorem zc225:zeroC Tryz.prog 225=some [.nilfunc]:=by kernel_rfl
theorem tz227:tsize Tryz.prog 227=some 1:=by kernel_rfl
theorem zc227:zeroC Tryz.prog 227=some [.nilsl]:=by kernel_rfl
theorem tz229:tsize Tryz.prog 229=some 1:=by kernel_rfl
theorem tz233:tsize Tryz.prog 233=some 3:=by kernel_rfl
theorem zc233:zeroC Tryz.prog 233=some [.str [],.str [],.nilif]:=by kernel_rfl
theorem tz235:tsize Tryz.prog 235=some 24:=by kernel_rfl
theorem tz238:tsize Tryz.prog 238=some 1:=by kernel_rfl
theorem tz243:tsize Tryz.prog 243=some 1:=by kernel_rfl
theorem zc243:zeroC Tryz.prog 243=some [.nilptr]:=by kernel_rfl
theorem tz244:tsize Tryz.prog 244=some 1:=by kernel_rfl
theorem zc244:zeroC Tryz.prog 244=some [.nilptr]:=by kernel_rfl
theorem tz246:tsize Tryz.prog 246=some 1:=by kernel_rfl
theorem zc246:zeroC Tryz.prog 246=some [.str []]:=by kernel_rfl
theorem tz249:tsize Tryz.prog 249=some 20:=by kernel_rfl
theorem tz250:tsize Tryz.prog 250=some 1:=by kernel_rfl
theorem zc250:zeroC Tryz.prog 250=some [.int .u32 0]:=by kernel_rfl
theorem tz251:tsize Tryz.prog 251=some 65:=by kernel_rfl
theorem tz263:tsize Tryz.prog 263=some 64:=by kernel_rfl
attribute [go_sem] tz0 tz2 tz3 tz4 tz5 tz9 tz20 tz21 tz22 tz25 tz26 tz28 tz31 tz32 tz34 tz36 tz38 tz40 tz41 tz43 tz44 tz46 tz49 tz50 tz62 tz64 tz67 tz69 tz70 tz73 tz75 tz78 tz82 tz84 tz86 tz87 tz89 tz91 tz97 tz101 tz103 tz104 tz110 tz123 tz131 tz155 tz156 tz158 tz160 tz162 tz174 tz175 tz177 tz179 tz180 tz193 tz194 tz205 tz211 tz213 tz217 tz218 tz219 tz221 tz225 tz227 tz229 tz233 tz235 tz238 tz243 tz244 tz246 tz249 tz250 tz251 tz263 zc2 zc3 zc4 zc5 zc9 zc20 zc21 zc22 zc25 zc26 zc28 zc31 zc32 zc34 zc36 zc40 zc41 zc43 zc44 zc49 zc50 zc62 zc64 zc67 zc69 zc70 zc73 zc75 zc78 zc82 zc84 zc86 zc87 zc89 zc97 zc101 zc110 zc123 zc131 zc155 zc156 zc158 zc160 zc162 zc174 zc175 zc177 zc179 zc180 zc193 zc205 zc211 zc213 zc217 zc218 zc221 zc225 zc227 zc233 zc243 zc244 zc246 zc250 Tryz.underlying0 Tryz.underlying2 Tryz.underlying3 Tryz.underlying4 Tryz.underlying5 Tryz.underlying9 Tryz.underlying20 Tryz.underlying21 Tryz.underlying22 Tryz.underlying25 Tryz.underlying26 Tryz.underlying28 Tryz.underlying31 Tryz.underlying32 Tryz.underlying34 Tryz.underlying36 Tryz.underlying38 Tryz.underlying40 Tryz.underlying41 Tryz.underlying43 Tryz.underlying44 Tryz.underlying46 Tryz.underlying49 Tryz.underlying50 Tryz.underlying62 Tryz.underlying64 Tryz.underlying67 Tryz.underlying69 Tryz.underlying70 Tryz.underlying73 Tryz.underlying75 Tryz.underlying78 Tryz.underlying82 Tryz.underlying84 Tryz.underlying86 Tryz.underlying87 Tryz.underlying89 Tryz.underlying91 Tryz.underlying97 Tryz.underlying101 Tryz.underlying103 Tryz.underlying104 Tryz.underlying110 Tryz.underlying123 Tryz.underlying131 Tryz.underlying155 Tryz.underlying156 Tryz.underlying158 Tryz.underlying160 Tryz.underlying162 Tryz.underlying174 Tryz.underlying175 Tryz.underlying177 Tryz.underlying179 Tryz.underlying180 Tryz.underlying193 Tryz.underlying194 Tryz.underlying205 Tryz.underlying211 Tryz.underlying213 Tryz.underlying217 Tryz.underlying218 Tryz.underlying219 Tryz.underlying221 Tryz.underlying225 Tryz.underlying227 Tryz.underlying229 Tryz.underlying233 Tryz.underlying235 Tryz.underlying238 Tryz.underlying243 Tryz.underlying244 Tryz.underlying246 Tryz.underlying249 Tryz.underlying250 Tryz.underlying251 Tryz.underlying263
theorem bd4:bodied Tryz.prog 4=true:=by kernel_rfl
theorem bd6:bodied Tryz.prog 6=true:=by kernel_rfl
theorem bd7:bodied Tryz.prog 7=true:=by kernel_rfl
theorem bd8:bodied Tryz.prog 8=true:=by kernel_rfl
theorem bd9:bodied Tryz.prog 9=true:=by kernel_rfl
theorem bd11:bodied Tryz.prog 11=true:=by kernel_rfl
theorem bd12:bodied Tryz.prog 12=true:=by kernel_rfl
theorem bd13:bodied Tryz.prog 13=true:=by kernel_rfl
theorem bd14:bodied Tryz.prog 14=true:=by kernel_rfl
theorem bd15:bodied Tryz.prog 15=true:=by kernel_rfl
theorem bd20:bodied Tryz.prog 20=true:=by kernel_rfl
theorem bd21:bodied Tryz.prog 21=true:=by kernel_rfl
theorem bd22:bodied Tryz.prog 22=true:=by kernel_rfl
theorem bd23:bodied Tryz.prog 23=true:=by kernel_rfl
theorem bd24:bodied Tryz.prog 24=true:=by kernel_rfl
theorem bd25:bodied Tryz.prog 25=true:=by kernel_rfl
theorem bd26:bodied Tryz.prog 26=true:=by kernel_rfl
theorem bd27:bodied Tryz.prog 27=true:=by kernel_rfl
theorem bd28:bodied Tryz.prog 28=true:=by kernel_rfl
theorem bd29:bodied Tryz.prog 29=true:=by kernel_rfl
theorem bd30:bodied Tryz.prog 30=true:=by kernel_rfl
theorem bd31:bodied Tryz.prog 31=true:=by kernel_rfl
theorem bd32:bodied Tryz.prog 32=true:=by kernel_rfl
theorem bd33:bodied Tryz.prog 33=true:=by kernel_rfl
theorem bd34:bodied Tryz.prog 34=true:=by kernel_rfl
theorem bd37:bodied Tryz.prog 37=true:=by kernel_rfl
theorem bd38:bodied Tryz.prog 38=true:=by kernel_rfl
theorem bd39:bodied Tryz.prog 39=true:=by kernel_rfl
theorem bd40:bodied Tryz.prog 40=true:=by kernel_rfl
theorem bd41:bodied Tryz.prog 41=true:=by kernel_rfl
theorem bd42:bodied Tryz.prog 42=true:=by kernel_rfl
theorem bd43:bodied Tryz.prog 43=true:=by kernel_rfl
theorem bd44:bodied Tryz.prog 44=true:=by kernel_rfl
theorem bd45:bodied Tryz.prog 45=true:=by kernel_rfl
theorem bd46:bodied Tryz.prog 46=true:=by kernel_rfl
theorem bd47:bodied Tryz.prog 47=true:=by kernel_rfl
theorem bd48:bodied Tryz.prog 48=true:=by kernel_rfl
theorem bd49:bodied Tryz.prog 49=true:=by kernel_rfl
theorem bd50:bodied Tryz.prog 50=true:=by kernel_rfl
theorem bd51:bodied Tryz.prog 51=true:=by kernel_rfl
theorem bd52:bodied Tryz.prog 52=true:=by kernel_rfl
theorem bd53:bodied Tryz.prog 53=true:=by kernel_rfl
theorem bd54:bodied Tryz.prog 54=true:=by kernel_rfl
theorem bd55:bodied Tryz.prog 55=true:=by kernel_rfl
theorem bd56:bodied Tryz.prog 56=true:=by kernel_rfl
theorem bd57:bodied Tryz.prog 57=true:=by kernel_rfl
theorem bd58:bodied Tryz.prog 58=true:=by kernel_rfl
theorem bd59:bodied Tryz.prog 59=true:=by kernel_rfl
theorem bd60:bodied Tryz.prog 60=true:=by kernel_rfl
theorem bd61:bodied Tryz.prog 61=true:=by kernel_rfl
theorem bd62:bodied Tryz.prog 62=true:=by kernel_rfl
theorem bd63:bodied Tryz.prog 63=true:=by kernel_rfl
theorem bd64:bodied Tryz.prog 64=true:=by kernel_rfl
theorem bd65:bodied Tryz.prog 65=true:=by kernel_rfl
theorem bd66:bodied Tryz.prog 66=true:=by kernel_rfl
theorem bd67:bodied Tryz.prog 67=true:=by kernel_rfl
theorem bd68:bodied Tryz.prog 68=true:=by kernel_rfl
theorem bd69:bodied Tryz.prog 69=true:=by kernel_rfl
theorem bd70:bodied Tryz.prog 70=true:=by kernel_rfl
theorem bd71:bodied Tryz.prog 71=true:=by kernel_rfl
theorem bd72:bodied Tryz.prog 72=true:=by kernel_rfl
theorem bd73:bodied Tryz.prog 73=true:=by kernel_rfl
theorem bd74:bodied Tryz.prog 74=true:=by kernel_rfl
theorem bd75:bodied Tryz.prog 75=true:=by kernel_rfl
theorem bd76:bodied Tryz.prog 76=true:=by kernel_rfl
theorem bd77:bodied Tryz.prog 77=true:=by kernel_rfl
theorem bd78:bodied Tryz.prog 78=true:=by kernel_rfl
theorem bd79:bodied Tryz.prog 79=true:=by kernel_rfl
theorem bd80:bodied Tryz.prog 80=true:=by kernel_rfl
theorem bd81:bodied Tryz.prog 81=true:=by kernel_rfl
theorem bd82:bodied Tryz.prog 82=true:=by kernel_rfl
theorem bd83:bodied Tryz.prog 83=true:=by kernel_rfl
theorem bd84:bodied Tryz.prog 84=true:=by kernel_rfl
theorem bd85:bodied Tryz.prog 85=true:=by kernel_rfl
theorem bd86:bodied Tryz.prog 86=true:=by kernel_rfl
theorem bd87:bodied Tryz.prog 87=true:=by kernel_rfl
theorem bd88:bodied Tryz.prog 88=true:=by kernel_rfl
theorem bd89:bodied Tryz.prog 89=true:=by kernel_rfl
theorem bd90:bodied Tryz.prog 90=true:=by kernel_rfl
theorem bd91:bodied Tryz.prog 91=true:=by kernel_rfl
theorem bd92:bodied Tryz.prog 92=true:=by kernel_rfl
theorem bd93:bodied Tryz.prog 93=true:=by kernel_rfl
theorem bd94:bodied Tryz.prog 94=true:=by kernel_rfl
theorem bd95:bodied Tryz.prog 95=true:=by kernel_rfl
theorem bd96:bodied Tryz.prog 96=true:=by kernel_rfl
theorem bd97:bodied Tryz.prog 97=true:=by kernel_rfl
theorem bd98:bodied Tryz.prog 98=true:=by kernel_rfl
theorem bd99:bodied Tryz.prog 99=true:=by kernel_rfl
theorem bd100:bodied Tryz.prog 100=true:=by kernel_rfl
theorem bd101:bodied Tryz.prog 101=true:=by kernel_rfl
theorem bd102:bodied Tryz.prog 102=true:=by kernel_rfl
theorem bd103:bodied Tryz.prog 103=true:=by kernel_rfl
theorem bd104:bodied Tryz.prog 104=true:=by kernel_rfl
theorem bd105:bodied Tryz.prog 105=true:=by kernel_rfl
theorem bd106:bodied Tryz.prog 106=true:=by kernel_rfl
theorem bd107:bodied Tryz.prog 107=true:=by kernel_rfl
theorem bd108:bodied Tryz.prog 108=true:=by kernel_rfl
theorem bd109:bodied Tryz.prog 109=true:=by kernel_rfl
theorem bd110:bodied Tryz.prog 110=true:=by kernel_rfl
theorem bd113:bodied Tryz.prog 113=true:=by kernel_rfl
theorem bd114:bodied Tryz.prog 114=true:=by kernel_rfl
theorem bd119:bodied Tryz.prog 119=true:=by kernel_rfl
theorem bd120:bodied Tryz.prog 120=true:=by kernel_rfl
theorem bd121:bodied Tryz.prog 121=true:=by kernel_rfl
theorem bd122:bodied Tryz.prog 122=true:=by kernel_rfl
theorem bd123:bodied Tryz.prog 123=true:=by kernel_rfl
theorem bd124:bodied Tryz.prog 124=true:=by kernel_rfl
theorem bd125:bodied Tryz.prog 125=true:=by kernel_rfl
theorem bd126:bodied Tryz.prog 126=true:=by kernel_rfl
theorem bd127:bodied Tryz.prog 127=true:=by kernel_rfl
theorem bd128:bodied Tryz.prog 128=true:=by kernel_rfl
theorem bd129:bodied Tryz.prog 129=true:=by kernel_rfl
theorem bd130:bodied Tryz.prog 130=true:=by kernel_rfl
theorem bd133:bodied Tryz.prog 133=true:=by kernel_rfl
theorem bd134:bodied Tryz.prog 134=true:=by kernel_rfl
theorem bd135:bodied Tryz.prog 135=true:=by kernel_rfl
theorem bd136:bodied Tryz.prog 136=true:=by kernel_rfl
theorem bd140:bodied Tryz.prog 140=true:=by kernel_rfl
theorem bd141:bodied Tryz.prog 141=true:=by kernel_rfl
theorem bd142:bodied Tryz.prog 142=true:=by kernel_rfl
theorem bd143:bodied Tryz.prog 143=true:=by kernel_rfl
theorem bd144:bodied Tryz.prog 144=true:=by kernel_rfl
theorem bd145:bodied Tryz.prog 145=true:=by kernel_rfl
theorem bd146:bodied Tryz.prog 146=true:=by kernel_rfl
theorem bd150:bodied Tryz.prog 150=true:=by kernel_rfl
theorem bd151:bodied Tryz.prog 151=true:=by kernel_rfl
theorem bd152:bodied Tryz.prog 152=true:=by kernel_rfl
theorem bd156:bodied Tryz.prog 156=true:=by kernel_rfl
theorem bd157:bodied Tryz.prog 157=true:=by kernel_rfl
theorem bd158:bodied Tryz.prog 158=true:=by kernel_rfl
theorem bd159:bodied Tryz.prog 159=true:=by kernel_rfl
theorem bd160:bodied Tryz.prog 160=true:=by kernel_rfl
theorem bd161:bodied Tryz.prog 161=true:=by kernel_rfl
theorem bd167:bodied Tryz.prog 167=true:=by kernel_rfl
theorem bd168:bodied Tryz.prog 168=true:=by kernel_rfl
theorem bd169:bodied Tryz.prog 169=true:=by kernel_rfl
theorem bd170:bodied Tryz.prog 170=true:=by kernel_rfl
theorem bd171:bodied Tryz.prog 171=true:=by kernel_rfl
theorem bd172:bodied Tryz.prog 172=true:=by kernel_rfl
theorem bd179:bodied Tryz.prog 179=true:=by kernel_rfl
theorem bd181:bodied Tryz.prog 181=true:=by kernel_rfl
theorem bd182:bodied Tryz.prog 182=true:=by kernel_rfl
theorem bd190:bodied Tryz.prog 190=true:=by kernel_rfl
theorem bd194:bodied Tryz.prog 194=true:=by kernel_rfl
theorem bd202:bodied Tryz.prog 202=true:=by kernel_rfl
theorem bd204:bodied Tryz.prog 204=true:=by kernel_rfl
end Go.Proofs.YtihigekgnnoejaaGreatDoor