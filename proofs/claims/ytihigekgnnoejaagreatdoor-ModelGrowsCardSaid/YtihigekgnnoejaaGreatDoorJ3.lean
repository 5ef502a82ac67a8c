/- Texts joined: MSt, MAr. -/
import Derived.Test.YtihigekgnnoejaaGreatDoorJ2
import Derived.Test.YtihigekgnnoejaaGreatDoorAb7
import Derived.Shelf.Strconv.Itoa3
import Derived.Shelf.Strconv.Atoi
import Derived.KernelRfl
import Derived.Test.YtihigekgnnoejaaGreatDoorH3
import Derived.Test.YtihigekgnnoejaaGreatDoorAb5
set_option maxRecDepth 100000
set_option linter.unusedVariables false
set_option linter.unusedSimpArgs false
section
namespace Go.Proofs.YtihigekgnnoejaaGreatDoor.mdl
open Go Go.Abs Go.Proofs Go.RowKit Go.Shelf
def laysItoa_ren:Go.Shelf.Ren:=⟨fun | 171=>148 | 243=>164 | 246=>178 | 283=>186 | 284=>187 | 285=>188 | 286=>189 | 129=>198 | 317=>197 | 318=>199 | 319=>200 | 320=>201 | 337=>208 | 338=>209 | n=>n,fun | 3=>3 | 9=>9 | 2=>2 | 4=>4 | 171=>235 | 0=>0 | 53=>62 | 37=>218 | 5=>5 | 173=>238 | 212=>249 | 51=>250 | 20=>20 | 213=>251 | 46=>156 | 232=>103 | 233=>263 | n=>n,fun | 17=>3 | 18=>6 | 19=>7 | n=>n⟩
theorem laysItoa:Go.Proofs.LaysM.n171 Tryz.prog laysItoa_ren where
 mixed:=by kernel_rfl
 f129:=Tryz.func198.trans (congrArg some (by kernel_rfl))
 f171:=Tryz.func148.trans (congrArg some (by kernel_rfl))
 f243:=Tryz.func164.trans (congrArg some (by kernel_rfl))
 f246:=Tryz.func178.trans (congrArg some (by kernel_rfl))
 f283:=Tryz.func186.trans (congrArg some (by kernel_rfl))
 f284:=Tryz.func187.trans (congrArg some (by kernel_rfl))
 f285:=Tryz.func188.trans (congrArg some (by kernel_rfl))
 f286:=Tryz.func189.trans (congrArg some (by kernel_rfl))
 f317:=Tryz.func197.trans (congrArg some (by kernel_rfl))
 f318:=Tryz.func199.trans (congrArg some (by kernel_rfl))
 f319:=Tryz.func200.trans (congrArg some (by kernel_rfl))
 f320:=Tryz.func201.trans (congrArg some (by kernel_rfl))
 f337:=Tryz.func208.trans (congrArg some (by kernel_rfl))
 f338:=Tryz.func209.trans (congrArg some (by kernel_rfl))
 t0:=Tryz.underlying0
 a0:=Tryz.isAgg0
 z0:=Tryz.sizeOf0
 v0:=Tryz.zeroValue0
 t2:=Tryz.underlying2
 a2:=Tryz.isAgg2
 z2:=Tryz.sizeOf2
 v2:=Tryz.zeroValue2
 t3:=Tryz.underlying3
 a3:=Tryz.isAgg3
 z3:=Tryz.sizeOf3
 v3:=Tryz.zeroValue3
 t4:=Tryz.underlying4
 a4:=Tryz.isAgg4
 z4:=Tryz.sizeOf4
 v4:=Tryz.zeroValue4
 t5:=Tryz.underlying5
 a5:=Tryz.isAgg5
 z5:=Tryz.sizeOf5
 v5:=Tryz.zeroValue5
 t9:=Tryz.underlying9
 a9:=Tryz.isAgg9
 z9:=Tryz.sizeOf9
 v9:=Tryz.zeroValue9
 t20:=Tryz.underlying20
 a20:=Tryz.isAgg20
 z20:=Tryz.sizeOf20
 v20:=Tryz.zeroValue20
 t37:=Tryz.underlying218
 a37:=Tryz.isAgg218
 z37:=Tryz.sizeOf218
 v37:=Tryz.zeroValue218
 t46:=Tryz.underlying156
 a46:=Tryz.isAgg156
 z46:=Tryz.sizeOf156
 v46:=Tryz.zeroValue156
 t51:=Tryz.underlying250
 a51:=Tryz.isAgg250
 z51:=Tryz.sizeOf250
 v51:=Tryz.zeroValue250
 t53:=Tryz.underlying62
 a53:=Tryz.isAgg62
 z53:=Tryz.sizeOf62
 v53:=Tryz.zeroValue62
 t171:=Tryz.underlying235
 a171:=Tryz.isAgg235
 z171:=Tryz.sizeOf235
 v171:=Tryz.zeroValue235
 t173:=Tryz.underlying238
 a173:=Tryz.isAgg238
 z173:=Tryz.sizeOf238
 v173:=Tryz.zeroValue238
 t212:=Tryz.underlying249
 a212:=Tryz.isAgg249
 z212:=Tryz.sizeOf249
 v212:=Tryz.zeroValue249
 t213:=Tryz.underlying251
 a213:=Tryz.isAgg251
 z213:=Tryz.sizeOf251
 t232:=Tryz.underlying103
 a232:=Tryz.isAgg103
 z232:=Tryz.sizeOf103
 v232:=Tryz.zeroValue103
 t233:=Tryz.underlying263
 a233:=Tryz.isAgg263
 z233:=Tryz.sizeOf263
 v233:=Tryz.zeroValue263
 g17:=by kernel_rfl
 g18:=by kernel_rfl
 g19:=by kernel_rfl
 i0:=by kernel_rfl
 i2:=by kernel_rfl
 i3:=by kernel_rfl
 i4:=by kernel_rfl
 i5:=by kernel_rfl
 i9:=by kernel_rfl
 i20:=by kernel_rfl
 i37:=by kernel_rfl
 i46:=by kernel_rfl
 i51:=by kernel_rfl
 i53:=by kernel_rfl
 i171:=by kernel_rfl
 i173:=by kernel_rfl
 i212:=by kernel_rfl
 i232:=by kernel_rfl
 i233:=by kernel_rfl
 m17:=by kernel_rfl
 m18:=by kernel_rfl
 m19:=by kernel_rfl
def laysAtoi_ren:Go.Shelf.Ren:=⟨fun | 172=>147 | 244=>162 | 245=>163 | 247=>173 | 279=>174 | 280=>175 | 281=>176 | 282=>177 | 287=>183 | 316=>184 | 171=>148 | 205=>185 | 321=>195 | 322=>196 | 243=>164 | 246=>178 | 283=>186 | 284=>187 | 285=>188 | 286=>189 | 129=>198 | 317=>197 | 318=>199 | 319=>200 | 320=>201 | 337=>208 | 338=>209 | n=>n,fun | 9=>9 | 3=>3 | 75=>193 | 76=>194 | 4=>4 | 5=>5 | 167=>217 | 37=>218 | 0=>0 | 85=>219 | 2=>2 | 168=>221 | 53=>62 | 175=>229 | 46=>156 | 210=>233 | 127=>243 | 145=>246 | 143=>244 | 21=>21 | 171=>235 | 173=>238 | 212=>249 | 51=>250 | 20=>20 | 213=>251 | 232=>103 | 233=>263 | 80=>264 | n=>n,fun | 15=>1 | 16=>2 | 17=>3 | 18=>6 | 19=>7 | n=>n⟩
theorem laysAtoi:Go.Proofs.Lays.n172 Tryz.prog laysAtoi_ren where
 mixed:=by kernel_rfl
 f129:=Tryz.func198.trans (congrArg some (by kernel_rfl))
 f171:=Tryz.func148.trans (congrArg some (by kernel_rfl))
 f172:=Tryz.func147.trans (congrArg some (by kernel_rfl))
 f205:=Tryz.func185.trans (congrArg some (by kernel_rfl))
 f243:=Tryz.func164.trans (congrArg some (by kernel_rfl))
 f244:=Tryz.func162.trans (congrArg some (by kernel_rfl))
 f245:=Tryz.func163.trans (congrArg some (by kernel_rfl))
 f246:=Tryz.func178.trans (congrArg some (by kernel_rfl))
 f247:=Tryz.func173.trans (congrArg some (by kernel_rfl))
 f279:=Tryz.func174.trans (congrArg some (by kernel_rfl))
 f280:=Tryz.func175.trans (congrArg some (by kernel_rfl))
 f281:=Tryz.func176.trans (congrArg some (by kernel_rfl))
 f282:=Tryz.func177.trans (congrArg some (by kernel_rfl))
 f283:=Tryz.func186.trans (congrArg some (by kernel_rfl))
 f284:=Tryz.func187.trans (congrArg some (by kernel_rfl))
 f285:=Tryz.func188.trans (congrArg some (by kernel_rfl))
 f286:=Tryz.func189.trans (congrArg some (by kernel_rfl))
 f287:=Tryz.func183.trans (congrArg some (by kernel_rfl))
 f316:=Tryz.func184.trans (congrArg some (by kernel_rfl))
 f317:=Tryz.func197.trans (congrArg some (by kernel_rfl))
 f318:=Tryz.func199.trans (congrArg some (by kernel_rfl))
 f319:=Tryz.func200.trans (congrArg some (by kernel_rfl))
 f320:=Tryz.func201.trans (congrArg some (by kernel_rfl))
 f321:=Tryz.func195.trans (congrArg some (by kernel_rfl))
 f322:=Tryz.func196.trans (congrArg some (by kernel_rfl))
 f337:=Tryz.func208.trans (congrArg some (by kernel_rfl))
 f338:=Tryz.func209.trans (congrArg some (by kernel_rfl))
 t0:=Tryz.underlying0
 a0:=Tryz.isAgg0
 z0:=Tryz.sizeOf0
 v0:=Tryz.zeroValue0
 t2:=Tryz.underlying2
 a2:=Tryz.isAgg2
 z2:=Tryz.sizeOf2
 v2:=Tryz.zeroValue2
 t3:=Tryz.underlying3
 a3:=Tryz.isAgg3
 z3:=Tryz.sizeOf3
 v3:=Tryz.zeroValue3
 t4:=Tryz.underlying4
 a4:=Tryz.isAgg4
 z4:=Tryz.sizeOf4
 v4:=Tryz.zeroValue4
 t5:=Tryz.underlying5
 a5:=Tryz.isAgg5
 z5:=Tryz.sizeOf5
 v5:=Tryz.zeroValue5
 t9:=Tryz.underlying9
 a9:=Tryz.isAgg9
 z9:=Tryz.sizeOf9
 v9:=Tryz.zeroValue9
 t20:=Tryz.underlying20
 a20:=Tryz.isAgg20
 z20:=Tryz.sizeOf20
 v20:=Tryz.zeroValue20
 t21:=Tryz.underlying21
 a21:=Tryz.isAgg21
 z21:=Tryz.sizeOf21
 v21:=Tryz.zeroValue21
 t37:=Tryz.underlying218
 a37:=Tryz.isAgg218
 z37:=Tryz.sizeOf218
 v37:=Tryz.zeroValue218
 t46:=Tryz.underlying156
 a46:=Tryz.isAgg156
 z46:=Tryz.sizeOf156
 v46:=Tryz.zeroValue156
 t51:=Tryz.underlying250
 a51:=Tryz.isAgg250
 z51:=Tryz.sizeOf250
 v51:=Tryz.zeroValue250
 t53:=Tryz.underlying62
 a53:=Tryz.isAgg62
 z53:=Tryz.sizeOf62
 v53:=Tryz.zeroValue62
 t75:=Tryz.underlying193
 a75:=Tryz.isAgg193
 z75:=Tryz.sizeOf193
 v75:=Tryz.zeroValue193
 t76:=Tryz.underlying194
 a76:=Tryz.isAgg194
 z76:=Tryz.sizeOf194
 v76:=Tryz.zeroValue194
 t85:=Tryz.underlying219
 a85:=Tryz.isAgg219
 z85:=Tryz.sizeOf219
 v85:=Tryz.zeroValue219
 t127:=Tryz.underlying243
 a127:=Tryz.isAgg243
 z127:=Tryz.sizeOf243
 v127:=Tryz.zeroValue243
 t143:=Tryz.underlying244
 a143:=Tryz.isAgg244
 z143:=Tryz.sizeOf244
 v143:=Tryz.zeroValue244
 t145:=Tryz.underlying246
 a145:=Tryz.isAgg246
 z145:=Tryz.sizeOf246
 v145:=Tryz.zeroValue246
 t167:=Tryz.underlying217
 a167:=Tryz.isAgg217
 z167:=Tryz.sizeOf217
 v167:=Tryz.zeroValue217
 t168:=Tryz.underlying221
 a168:=Tryz.isAgg221
 z168:=Tryz.sizeOf221
 v168:=Tryz.zeroValue221
 t171:=Tryz.underlying235
 a171:=Tryz.isAgg235
 z171:=Tryz.sizeOf235
 v171:=Tryz.zeroValue235
 t173:=Tryz.underlying238
 a173:=Tryz.isAgg238
 z173:=Tryz.sizeOf238
 v173:=Tryz.zeroValue238
 t175:=Tryz.underlying229
 a175:=Tryz.isAgg229
 z175:=Tryz.sizeOf229
 v175:=Tryz.zeroValue229
 t210:=Tryz.underlying233
 a210:=Tryz.isAgg233
 z210:=Tryz.sizeOf233
 v210:=Tryz.zeroValue233
 t212:=Tryz.underlying249
 a212:=Tryz.isAgg249
 z212:=Tryz.sizeOf249
 v212:=Tryz.zeroValue249
 t213:=Tryz.underlying251
 a213:=Tryz.isAgg251
 z213:=Tryz.sizeOf251
 t232:=Tryz.underlying103
 a232:=Tryz.isAgg103
 z232:=Tryz.sizeOf103
 v232:=Tryz.zeroValue103
 t233:=Tryz.underlying263
 a233:=Tryz.isAgg263
 z233:=Tryz.sizeOf263
 v233:=Tryz.zeroValue263
 g15:=by kernel_rfl
 g16:=by kernel_rfl
 g17:=by kernel_rfl
 g18:=by kernel_rfl
 g19:=by kernel_rfl
theorem itoaAt:ItoaAt Tryz.prog 148:=fun n w h0 h1 ht=>Calls.mono (Any.strconv_Itoa laysItoa n (by omega) (by omega) w ht) fun e w' ⟨he,k,os,hw⟩=>⟨he,by rw [hw];exact Lib.below_grow _ w (Nat.le_refl _) k os⟩
theorem atoiAt:AtoiAt Tryz.prog 147:=fun s n w h0 h1=>Calls.mono (Any.strconv_Atoi laysAtoi s n h0 h1 w) fun e w' ⟨he,t,hw⟩=>⟨he,by rw [hw];exact Lib.bytesWorld_below _ _ _⟩
theorem xCnt:ExtOK Tryz.prog 193 Extern.BytealgCount.count:=⟨_,Tryz.func193,by kernel_rfl,by kernel_rfl,by kernel_rfl,by kernel_rfl⟩
theorem xIdx:ExtOK Tryz.prog 211 Extern.BytealgIndexByte.indexByte:=⟨_,Tryz.func211,by kernel_rfl,by kernel_rfl,by kernel_rfl,by kernel_rfl⟩
theorem xCmp:ExtOK Tryz.prog 166 Extern.BytealgCompare.compare:=⟨_,Tryz.func166,by kernel_rfl,by kernel_rfl,by kernel_rfl,by kernel_rfl⟩
theorem xAdd:ExtOK Tryz.prog 210 add64Entry:=⟨_,Tryz.func210,by kernel_rfl,by kernel_rfl,by kernel_rfl,by kernel_rfl⟩
theorem xOvHeld:ExtOK Tryz.prog 131 (Extern.SlicesOverlaps.overlaps #[25,25] #[4]):=⟨_,Tryz.func131,by kernel_rfl,by kernel_rfl,by kernel_rfl,by kernel_rfl⟩
theorem xOvMatrix:ExtOK Tryz.prog 117 (Extern.SlicesOverlaps.overlaps #[26,26] #[4]):=⟨_,Tryz.func117,by kernel_rfl,by kernel_rfl,by kernel_rfl,by kernel_rfl⟩
theorem xOvRow:ExtOK Tryz.prog 111 (Extern.SlicesOverlaps.overlaps #[41,41] #[4]):=⟨_,Tryz.func111,by kernel_rfl,by kernel_rfl,by kernel_rfl,by kernel_rfl⟩
theorem xOvint:ExtOK Tryz.prog 115 (Extern.SlicesOverlaps.overlaps #[82,82] #[4]):=⟨_,Tryz.func115,by kernel_rfl,by kernel_rfl,by kernel_rfl,by kernel_rfl⟩
noncomputable def s0:Sums:=fun f args h =>
 cond (Nat.beq f 193) (sumCount args h) <|
 cond (Nat.beq f 211) (sumIndex args h) <|
 cond (Nat.beq f 166) (sumCmp args h) <|
 cond (Nat.beq f 210) (sumAdd args h) <|
 cond (Nat.beq f 148) (sumItoa args h) <|
 cond (Nat.beq f 147) (sumAtoi args h) <|
 cond (Nat.beq f 131) (sumOver args h) <|
 cond (Nat.beq f 117) (sumOver args h) <|
 cond (Nat.beq f 111) (sumOver args h) <|
 cond (Nat.beq f 115) (sumOver args h) <|
 none
theorem s0_ok:SumsOK Tryz.prog s0:=by
 intro K ρ h w f args cargs v h' hR hv hs
 unfold s0 at hs
 by_cases h0:f=193
 ·subst h0;exact sumCount_ok xCnt hR hv hs
 by_cases h1:f=211
 ·subst h1;exact sumIndex_ok xIdx hR hv hs
 by_cases h2:f=166
 ·subst h2;exact sumCmp_ok xCmp hR hv hs
 by_cases h3:f=210
 ·subst h3;exact sumAdd_ok xAdd hR hv hs
 by_cases h4:f=148
 ·subst h4;exact sumItoa_ok itoaAt (by kernel_rfl) (by kernel_rfl) hR hv hs
 by_cases h5:f=147
 ·subst h5;exact sumAtoi_ok atoiAt (by kernel_rfl) hR hv hs
 by_cases h6:f=131
 ·subst h6;exact sumOver_ok Tryz.underlying25 tz49 xOvHeld hR hv hs
 by_cases h7:f=117
 ·subst h7;exact sumOver_ok Tryz.underlying26 tz43 xOvMatrix hR hv hs
 by_cases h8:f=111
 ·subst h8;exact sumOver_ok Tryz.underlying41 tz84 xOvRow hR hv hs
 by_cases h9:f=115
 ·subst h9;exact sumOver_ok Tryz.underlying82 tz3 xOvint hR hv hs
 simp only [nbeq,h0,h1,h2,h3,h4,h5,h6,h7,h8,h9,decide_false,cond_false] at hs
 cases hs
theorem mi0:Mi s0 where
 no:=by rintro f args h (rfl | rfl | rfl | rfl | rfl | rfl) <;> rfl
 ov:=by rintro f args h (rfl | rfl | rfl | rfl) <;> rfl
noncomputable def s1:Sums:=fun f args h =>
 cond (Nat.beq f 102) (sumIns 12 args h) <|
 cond (Nat.beq f 89) (sumIns 2 args h) <|
 cond (Nat.beq f 84) (sumIns 2 args h) <|
 cond (Nat.beq f 88) (sumIns 1 args h) <|
 cond (Nat.beq f 85) (sumDel 2 args h) <|
 cond (Nat.beq f 87) (sumDel 1 args h) <|
 s0 f args h
theorem s1_ok:SumsOK Tryz.prog s1:=by
 intro K ρ h w f args cargs v h' hR hv hs
 unfold s1 at hs
 by_cases h0:f=102
 ·subst h0;exact sumIns_ok s0_ok (fun h id n i K jd cs J xs d a1 a2 a3 a4 a5 a6 a7 a8 a9 b1 b2 b3 b4=>insHdR mi0 a1 a2 a3 a4 a5 a6 a7 a8 a9 b1 b2 b3 b4) hR hv hs
 by_cases h1:f=89
 ·subst h1;exact sumIns_ok s0_ok (fun h id n i K jd cs J xs d a1 a2 a3 a4 a5 a6 a7 a8 a9 b1 b2 b3 b4=>insMtR mi0 a1 a2 a3 a4 a5 a6 a7 a8 a9 b1 b2 b3 b4) hR hv hs
 by_cases h2:f=84
 ·subst h2;exact sumIns_ok s0_ok (fun h id n i K jd cs J xs d a1 a2 a3 a4 a5 a6 a7 a8 a9 b1 b2 b3 b4=>insRwR mi0 a1 a2 a3 a4 a5 a6 a7 a8 a9 b1 b2 b3 b4) hR hv hs
 by_cases h3:f=88
 ·subst h3;exact sumIns_ok s0_ok (fun h id n i K jd cs J xs d a1 a2 a3 a4 a5 a6 a7 a8 a9 b1 b2 b3 b4=>insInR mi0 a1 a2 a3 a4 a5 a6 a7 a8 a9 b1 b2 b3 b4) hR hv hs
 by_cases h4:f=85
 ·subst h4;exact sumDel_ok s0_ok (fun h id n i K cs J a1 a2 a3 a4 a5 a6 a7=>delRwR mi0 a1 a2 a3 a4 a5 a6 a7) hR hv hs
 by_cases h5:f=87
 ·subst h5;exact sumDel_ok s0_ok (fun h id n i K cs J a1 a2 a3 a4 a5 a6 a7=>delInR mi0 a1 a2 a3 a4 a5 a6 a7) hR hv hs
 simp only [nbeq,h0,h1,h2,h3,h4,h5,decide_false,cond_false] at hs
 exact s0_ok K ρ h w f args cargs v h' hR hv hs
def isTrue:Option (AV×AH)→Bool
 | some (.bool true,_)=>true
 | _=>false
theorem isTrue_eq {r:Option (AV×AH)} (h:isTrue r=true):∃h',r=some (.bool true,h'):=by
 unfold isTrue at h
 split at h
 ·exact ⟨_,rfl⟩
 ·cases h
theorem livesRun:isTrue ((evN Tryz.prog s1 3000).call 5 [] { tr:=.nil,nx:=0 })=true:=by kernel_rfl
noncomputable def s2:Sums:=fun f args h=>cond (Nat.beq f 5) (match args with | []=>some (.bool true,h) | _=>none) (s1 f args h)
theorem s2_ok:SumsOK Tryz.prog s2:=by
 intro K ρ h w f args cargs v h' hR hv hs
 unfold s2 at hs
 rw [nat_beq_dec] at hs
 by_cases h8:f=5
 ·subst h8
  simp only [decide_true,cond_true] at hs
  split at hs
  ·cases hs
   obtain ⟨h0,hc⟩:=isTrue_eq livesRun
   exact sumClosed_ok s1_ok hc (fun ρ ρ' cv hx=>by cases hx;exact .bool _) hR hv
  ·cases hs
 ·simp only [h8,decide_false,cond_false] at hs
  exact s1_ok K ρ h w f args cargs v h' hR hv hs
theorem s2_none (f:FuncId) (args:List AV) (h:AH) (hf:f∉([5,102,89,84,88,85,87,193,211,166,210,148,147,131,117,111,115]:List Nat)):s2 f args h=none:=by
 simp only [List.mem_cons,not_or,List.not_mem_nil,not_false_eq_true,and_true] at hf
 obtain ⟨k0,k1,k2,k3,k4,k5,k6,k7,k8,k9,k10,k11,k12,k13,k14,k15,k16⟩:=hf
 simp only [s2,s1,s0,nbeq,k0,k1,k2,k3,k4,k5,k6,k7,k8,k9,k10,k11,k12,k13,k14,k15,k16,decide_false,cond_false]
theorem nin {l m:List Nat} (hd:∀x∈l,x∉m) {f:Nat} (hf:f∈l):f∉m:=hd f hf
theorem s2_nz:Nz s2 where
 nv f args h hf:=s2_none f args h (nin (by decide) hf)
 nr f args h hf:=s2_none f args h (nin (by decide) hf)
 nu f args h hf:=s2_none f args h (nin (by decide) hf)
 ng f args h hf:=s2_none f args h (nin (by decide) hf)
 nk f args h hf:=s2_none f args h (nin (by decide) hf)
 no f args h hf:=s2_none f args h (nin (by decide) hf)
 np f args h hf:=s2_none f args h (nin (by decide) hf)
 nx f args h hf:=s2_none f args h (nin (by decide) hf)
 ny f args h hf:=s2_none f args h (nin (by decide) hf)
 nz f args h hf:=s2_none f args h (nin (by decide) hf)
 na f args h hf:=s2_none f args h (nin (by decide) hf)
 nb f args h hf:=s2_none f args h (nin (by decide) hf)
 nf f args h hf:=s2_none f args h (nin (by decide) hf)
 nv9 f args h hf:=s2_none f args h (nin (by decide) hf)
 nw9 f args h hf:=s2_none f args h (nin (by decide) hf)
 nx8 f args h hf:=s2_none f args h (nin (by decide) hf)
 nz27 f args h hf:=s2_none f args h (nin (by decide) hf)
 cnt args h:=rfl
 idx args h:=rfl
 add a b h:=⟨_,_,rfl⟩
 cm a b h:=rfl
 insHd args h:=rfl
 insMt args h:=rfl
 insRw args h:=rfl
 insIn args h:=rfl
 delRw args h:=rfl
 delIn args h:=rfl
 atoi s h h1 h3 hb:=sumAtoi_at h1 h3 hb h
 itoa n h hn:=sumItoa_at hn h
 lives h:=rfl
open Go.ChangeShapes
theorem c3:Tryz.prog.cellsOf 3=1:=by kernel_rfl
theorem c9:Tryz.prog.cellsOf 9=1:=by kernel_rfl
theorem c4:Tryz.prog.cellsOf 4=1:=by kernel_rfl
theorem c62:Tryz.prog.cellsOf 62=1:=by kernel_rfl
theorem c5:Tryz.prog.cellsOf 5=1:=by kernel_rfl
theorem c64:Tryz.prog.cellsOf 64=2:=by kernel_rfl
theorem c104:Tryz.prog.cellsOf 104=32:=by kernel_rfl
theorem c31:Tryz.prog.cellsOf 31=1:=by kernel_rfl
theorem c32:Tryz.prog.cellsOf 32=1:=by kernel_rfl
theorem c34:Tryz.prog.cellsOf 34=3:=by kernel_rfl
theorem c36:Tryz.prog.cellsOf 36=7:=by kernel_rfl
theorem c82:Tryz.prog.cellsOf 82=1:=by kernel_rfl
theorem c84:Tryz.prog.cellsOf 84=2:=by kernel_rfl
theorem c41:Tryz.prog.cellsOf 41=1:=by kernel_rfl
theorem c43:Tryz.prog.cellsOf 43=2:=by kernel_rfl
theorem c44:Tryz.prog.cellsOf 44=1:=by kernel_rfl
theorem c40:Tryz.prog.cellsOf 40=3:=by kernel_rfl
theorem c38:Tryz.prog.cellsOf 38=18:=by kernel_rfl
theorem c46:Tryz.prog.cellsOf 46=30:=by kernel_rfl
theorem flat_rg {α:Type} (enc:α→List AV) (z:Nat) {cs:List AV} (F:Nat→α):∀n:Nat,n*z≤cs.length→(∀i,i<n→(cs.drop (i*z)).take z=enc (F i))→cs.take (n*z)=((List.range n).map F).flatMap enc
 | 0,_,_=>by simp
 | n+1,hn,h=>by
  have e:(n+1)*z=n*z+z:=Nat.succ_mul n z
  have ih:=flat_rg enc z F n (by omega) fun i hi=>h i (by omega)
  rw [e,List.take_add,ih,h n (Nat.lt_succ_self n),List.range_succ,List.map_append,List.flatMap_append]
  simp
section
variable {h : AH} {avs : List AV}
theorem ty_fl {α:Type} {t e:TypeId} {z:Nat} (enc:α→List AV) (d:α) (hu:Tryz.prog.underlying t=some (.slice e)) (hz:Tryz.prog.cellsOf e=z) (hel:∀avs,Ty Tryz.prog h e avs→∃x,avs=enc x) (hx:Ty Tryz.prog h t avs) (hlt:∀id o,h.get id=some o→id<h.nx):∃(v:AV) (l:List α),avs=[v]∧Fl (fun _=>0) z h v (l.flatMap enc):=by
 rcases hx.slice_inv hu with rfl | ⟨id,len,cs,rfl,hg,hl,hcs,hs⟩
 ·exact ⟨_,[],rfl,.inl ⟨rfl,rfl⟩⟩
 ·rw [hz] at hcs hs ⊢
  have key:∀i,∃x:α,i<len→(cs.drop (i*z)).take z=enc x:=fun i=>by
   by_cases hi:i<len
   ·obtain ⟨x,h1⟩:=hel _ (hs i hi)
    exact ⟨x,fun _=>h1⟩
   ·exact ⟨d,fun hh=>absurd hh hi⟩
  obtain ⟨F,hF⟩:=Classical.axiomOfChoice key
  refine ⟨_,(List.range len).map F,rfl,.inr ⟨id,0,len,none,cs,false,false,rfl,hg,hlt _ _ hg,rfl,fun k hk=>(by cases hk),by omega,?_⟩⟩
  rw [List.drop_zero]
  exact flat_rg enc z F len (by omega) hF
theorem ty_sl {α:Type} {t e:TypeId} {z:Nat} {E:List AV→α→Prop} (d:α) (hu:Tryz.prog.underlying t=some (.slice e)) (hz:Tryz.prog.cellsOf e=z) (hel:∀avs,Ty Tryz.prog h e avs→∃x,E avs x) (hx:Ty Tryz.prog h t avs) (hlt:∀id o,h.get id=some o→id<h.nx):∃(v:AV) (l:List α),avs=[v]∧Sl (fun _=>0) z E h v l:=by
 rcases hx.slice_inv hu with rfl | ⟨id,len,cs,rfl,hg,hl,hcs,hs⟩
 ·exact ⟨_,[],rfl,.inl ⟨rfl,rfl⟩⟩
 ·rw [hz] at hcs hs ⊢
  have key:∀i,∃x:α,i<len→E ((cs.drop (i*z)).take z) x:=fun i=>by
   by_cases hi:i<len
   ·obtain ⟨x,h1⟩:=hel _ (hs i hi)
    exact ⟨x,fun _=>h1⟩
   ·exact ⟨d,fun hh=>absurd hh hi⟩
  obtain ⟨F,hF⟩:=Classical.axiomOfChoice key
  have hm:((List.range len).map F).length=len:=by simp
  refine ⟨_,(List.range len).map F,rfl,.inr ⟨id,0,none,cs,false,false,by rw [hm],hg,hlt _ _ hg,rfl,fun k hk=>(by cases hk),by rw [hm];omega,fun i x hi=>?_⟩⟩
  have hil:i<len:=by have:=(List.getElem?_eq_some_iff.1 hi).1;rwa [hm] at this
  have e:((List.range len).map F)[i]? = some (F i):=by simp [hil]
  rw [e] at hi
  cases hi
  rw [Nat.zero_add]
  exact hF i hil
theorem ty_ct (hx:Ty Tryz.prog h 64 avs):∃c:Ct,avs=ctc c:=by
 obtain ⟨hl,hf⟩:=hx.struct_inv Tryz.underlying64
 have hl2:avs.length=2:=hl.trans c64
 match avs,hl2 with
 | [a0,a1],_ =>
  have f0:=hf _ (List.mem_cons_self ..)
  have f1:=hf _ (List.mem_cons_of_mem _ (List.mem_cons_self ..))
  simp only [c3,c62,List.drop_zero,List.drop_succ_cons,List.take_succ_cons,List.take_zero] at f0 f1
  obtain ⟨k,e0,_⟩:=f0.int_inv Tryz.underlying3
  obtain ⟨q,e1,_⟩:=f1.int_inv Tryz.underlying62
  cases e0;cases e1
  exact ⟨(k,q),rfl⟩
theorem u8s:∀l:List AV,(∀(i:Nat) a,l[i]? = some a→∃n,a=.int .u8 n)→∃m:List Int,l=m.map (AV.int .u8)
 | [],_=>⟨[],rfl⟩
 | a::r,hh=>by
  obtain ⟨n,rfl⟩:=hh 0 a rfl
  obtain ⟨m,hm⟩:=u8s r fun i b hb=>hh (i+1) b (by simpa using hb)
  exact ⟨n::m,by rw [hm];rfl⟩
theorem ty_dg (hx:Ty Tryz.prog h 104 avs):∃d:Dg,avs=dgc d:=by
 obtain ⟨hl,hf⟩:=hx.array_inv Tryz.underlying104
 have hl2:avs.length=32:=hl.trans c104
 obtain ⟨m,hm⟩:=u8s avs fun i a hi=>by
  have hil:=(List.getElem?_eq_some_iff.1 hi).1
  have h1:=hf i (by omega)
  rw [c5,Nat.mul_one] at h1
  obtain ⟨n,e,_⟩:=h1.int_inv Tryz.underlying5
  have h2:((avs.drop i).take 1)[0]? = some a:=by simpa using hi
  rw [e] at h2
  exact ⟨n,(Option.some.inj h2).symm⟩
 exact ⟨⟨m,by rw [hm,List.length_map] at hl2;exact hl2⟩,hm⟩
theorem ty_rc (hx:Ty Tryz.prog h 36 avs) (hlt:∀id o,h.get id=some o→id<h.nx):∃r,RaU h avs r:=by
 obtain ⟨hl,hf⟩:=hx.struct_inv Tryz.underlying36
 have hl2:avs.length=7:=hl.trans c36
 match avs,hl2 with
 | [a0,a1,a2,a3,a4,a5,a6],_ =>
  have f0:=hf _ (List.mem_cons_self ..)
  have f1:=hf _ (List.mem_cons_of_mem _ (List.mem_cons_self ..))
  have f2:=hf _ (List.mem_cons_of_mem _ (List.mem_cons_of_mem _ (List.mem_cons_self ..)))
  have f3:=hf _ (List.mem_cons_of_mem _ (List.mem_cons_of_mem _ (List.mem_cons_of_mem _ (List.mem_cons_self ..))))
  have f4:=hf _ (List.mem_cons_of_mem _ (List.mem_cons_of_mem _ (List.mem_cons_of_mem _ (List.mem_cons_of_mem _ (List.mem_cons_self ..)))))
  simp only [c3,c9,c4,c31,c34,List.drop_zero,List.drop_succ_cons,List.take_succ_cons,List.take_zero] at f0 f1 f2 f3 f4
  obtain ⟨p,e0,_⟩:=f0.str_inv Tryz.underlying9
  obtain ⟨v,l,e1,hv⟩:=ty_fl ctc (0,0) Tryz.underlying31 c64 (fun _ hh=>ty_ct hh) f1 hlt
  obtain ⟨b,e2,_⟩:=f2.int_inv Tryz.underlying3
  obtain ⟨g,e3⟩:=f3.bool_inv Tryz.underlying4
  obtain ⟨_,hf4⟩:=f4.struct_inv Tryz.underlying34
  have g0:=hf4 _ (List.mem_cons_self ..)
  have g1:=hf4 _ (List.mem_cons_of_mem _ (List.mem_cons_self ..))
  have g2:=hf4 _ (List.mem_cons_of_mem _ (List.mem_cons_of_mem _ (List.mem_cons_self ..)))
  simp only [c3,c32,List.drop_zero,List.drop_succ_cons,List.take_succ_cons,List.take_zero] at g0 g1 g2
  obtain ⟨s,e4,_⟩:=g0.int_inv Tryz.underlying3
  obtain ⟨n,e5,_⟩:=g1.int_inv Tryz.underlying3
  obtain ⟨d,k,e6,hd⟩:=ty_fl dgc ⟨List.replicate 32 0,rfl⟩ Tryz.underlying32 c104 (fun _ hh=>ty_dg hh) g2 hlt
  cases e0;cases e1;cases e2;cases e3;cases e4;cases e5;cases e6
  exact ⟨⟨bytesOf p,l,b,g,s,n,k⟩,_,_,rfl,hv,hd⟩
theorem ty_in {avs:List AV} (hx:Ty Tryz.prog h 3 avs):∃n:Int,avs=[AV.int .i64 n]:=by
 obtain ⟨n,e,_⟩:=hx.int_inv Tryz.underlying3
 exact ⟨n,e⟩
theorem ty_rw (hx:Ty Tryz.prog h 84 avs) (hlt:∀id o,h.get id=some o→id<h.nx):∃r,WaU h avs r:=by
 obtain ⟨hl,hf⟩:=hx.struct_inv Tryz.underlying84
 have hl2:avs.length=2:=hl.trans c84
 match avs,hl2 with
 | [a0,a1],_ =>
  have f0:=hf _ (List.mem_cons_self ..)
  have f1:=hf _ (List.mem_cons_of_mem _ (List.mem_cons_self ..))
  simp only [c9,c82,List.drop_zero,List.drop_succ_cons,List.take_succ_cons,List.take_zero] at f0 f1
  obtain ⟨p,e0,_⟩:=f0.str_inv Tryz.underlying9
  obtain ⟨v,l,e1,hv⟩:=ty_fl (fun i=>[AV.int .i64 i]) (0:Int) Tryz.underlying82 c3 (fun _ hh=>ty_in hh) f1 hlt
  cases e0;cases e1
  exact ⟨⟨bytesOf p,l⟩,_,rfl,hv⟩
theorem ty_se (hx:Ty Tryz.prog h 46 avs) (hlt:∀id o,h.get id=some o→id<h.nx):∃x,SaU h avs x:=by
 obtain ⟨hl,hf⟩:=hx.struct_inv Tryz.underlying46
 have hl2:avs.length=30:=hl.trans c46
 match avs,hl2 with
 | [a0,a1,a2,a3,a4,a5,a6,a7,a8,a9,a10,a11,a12,a13,a14,a15,a16,a17,a18,a19,a20,a21,a22,a23,a24,a25,a26,a27,a28,a29],_ =>
  have f0:=hf _ (List.mem_cons_self ..)
  have f1:=hf _ (List.mem_cons_of_mem _ (List.mem_cons_self ..))
  have f2:=hf _ (List.mem_cons_of_mem _ (List.mem_cons_of_mem _ (List.mem_cons_self ..)))
  have f3:=hf _ (List.mem_cons_of_mem _ (List.mem_cons_of_mem _ (List.mem_cons_of_mem _ (List.mem_cons_self ..))))
  have hf:=fun f hh=>hf f (List.mem_cons_of_mem _ (List.mem_cons_of_mem _ (List.mem_cons_of_mem _ (List.mem_cons_of_mem _ hh))))
  have f4:=hf _ (List.mem_cons_self ..)
  have f5:=hf _ (List.mem_cons_of_mem _ (List.mem_cons_self ..))
  have f6:=hf _ (List.mem_cons_of_mem _ (List.mem_cons_of_mem _ (List.mem_cons_self ..)))
  have f7:=hf _ (List.mem_cons_of_mem _ (List.mem_cons_of_mem _ (List.mem_cons_of_mem _ (List.mem_cons_self ..))))
  have hf:=fun f hh=>hf f (List.mem_cons_of_mem _ (List.mem_cons_of_mem _ (List.mem_cons_of_mem _ (List.mem_cons_of_mem _ hh))))
  have f8:=hf _ (List.mem_cons_self ..)
  have f9:=hf _ (List.mem_cons_of_mem _ (List.mem_cons_self ..))
  simp only [c3,c9,c38,c40,c43,c44,List.drop_zero,List.drop_succ_cons,List.take_succ_cons,List.take_zero] at f0 f1 f2 f3 f4 f5 f6 f7 f8 f9
  obtain ⟨x0,e0,_⟩:=f0.int_inv Tryz.underlying3
  obtain ⟨x1,e1,_⟩:=f1.int_inv Tryz.underlying3
  obtain ⟨x2,e2,_⟩:=f2.int_inv Tryz.underlying3
  obtain ⟨x3,e3,_⟩:=f3.int_inv Tryz.underlying3
  obtain ⟨x4,e4,_⟩:=f4.str_inv Tryz.underlying9
  obtain ⟨x5,e5,_⟩:=f5.str_inv Tryz.underlying9
  obtain ⟨_,hd⟩:=f6.struct_inv Tryz.underlying38
  have d0:=hd _ (List.mem_cons_self ..)
  have d1:=hd _ (List.mem_cons_of_mem _ (List.mem_cons_self ..))
  have d2:=hd _ (List.mem_cons_of_mem _ (List.mem_cons_of_mem _ (List.mem_cons_self ..)))
  have hd:=fun f hh=>hd f (List.mem_cons_of_mem _ (List.mem_cons_of_mem _ (List.mem_cons_of_mem _ hh)))
  have d3:=hd _ (List.mem_cons_self ..)
  have d4:=hd _ (List.mem_cons_of_mem _ (List.mem_cons_self ..))
  have d5:=hd _ (List.mem_cons_of_mem _ (List.mem_cons_of_mem _ (List.mem_cons_self ..)))
  simp only [c3,c9,c36,List.drop_zero,List.drop_succ_cons,List.take_succ_cons,List.take_zero] at d0 d1 d2 d3 d4 d5
  obtain ⟨y0,e6,_⟩:=d0.int_inv Tryz.underlying3
  obtain ⟨y1,e7,_⟩:=d1.str_inv Tryz.underlying9
  obtain ⟨y2,e8,_⟩:=d2.str_inv Tryz.underlying9
  obtain ⟨y3,h3⟩:=ty_rc d3 hlt
  obtain ⟨y4,e9,_⟩:=d4.str_inv Tryz.underlying9
  obtain ⟨y5,h5⟩:=ty_rc d5 hlt
  obtain ⟨_,hc⟩:=f7.struct_inv Tryz.underlying40
  have g0:=hc _ (List.mem_cons_self ..)
  have g1:=hc _ (List.mem_cons_of_mem _ (List.mem_cons_self ..))
  have g2:=hc _ (List.mem_cons_of_mem _ (List.mem_cons_of_mem _ (List.mem_cons_self ..)))
  simp only [c3,c9,List.drop_zero,List.drop_succ_cons,List.take_succ_cons,List.take_zero] at g0 g1 g2
  obtain ⟨z0,e10,_⟩:=g0.int_inv Tryz.underlying3
  obtain ⟨z1,e11,_⟩:=g1.str_inv Tryz.underlying9
  obtain ⟨z2,e12,_⟩:=g2.int_inv Tryz.underlying3
  obtain ⟨_,hm⟩:=f8.struct_inv Tryz.underlying43
  have m0:=hm _ (List.mem_cons_self ..)
  have m1:=hm _ (List.mem_cons_of_mem _ (List.mem_cons_self ..))
  simp only [c3,c41,List.drop_zero,List.drop_succ_cons,List.take_succ_cons,List.take_zero] at m0 m1
  obtain ⟨w0,e13,_⟩:=m0.int_inv Tryz.underlying3
  obtain ⟨rw',rows,e14,hrw⟩:=ty_sl (E:=WaU h) ⟨[],[]⟩ Tryz.underlying41 c84 (fun _ hh=>ty_rw hh hlt) m1 hlt
  obtain ⟨rv,rs,e15,hrs⟩:=ty_sl (E:=RaU h) ⟨[],[],0,false,0,0,[]⟩ Tryz.underlying44 c36 (fun _ hh=>ty_rc hh hlt) f9 hlt
  have h3':=h3
  have h5':=h5
  obtain ⟨v1,q1,e16,hv1,hq1⟩:=h3
  obtain ⟨v2,q2,e17,hv2,hq2⟩:=h5
  cases e0;cases e1;cases e2;cases e3;cases e4;cases e5;cases e6;cases e7;cases e8;cases e9;cases e10;cases e11;cases e12;cases e13;cases e14;cases e15;cases e16;cases e17
  exact ⟨⟨x0,x1,x2,x3,bytesOf x4,bytesOf x5,y0,bytesOf y1,bytesOf y2,y3,bytesOf y4,y5,z0,bytesOf z1,z2,⟨w0,rows⟩,rs⟩,_,_,_,_,_,_,rfl,h3',h5',hrw,hrs⟩
theorem ty_seens (hx:Ty Tryz.prog h 22 avs) (hlt:∀id o,h.get id=some o→id<h.nx):∃v L,avs=[v]∧Sl (fun _=>0) 30 (SaU h) h v L :=
 ty_sl (E:=SaU h) ⟨0,0,0,0,[],[],0,[],[],⟨[],[],0,false,0,0,[]⟩,[],⟨[],[],0,false,0,0,[]⟩,0,[],0,⟨0,[]⟩,[]⟩ Tryz.underlying22 c46 (fun _ hh=>ty_se hh hlt) hx hlt
end
end Go.Proofs.YtihigekgnnoejaaGreatDoor.mdl
end