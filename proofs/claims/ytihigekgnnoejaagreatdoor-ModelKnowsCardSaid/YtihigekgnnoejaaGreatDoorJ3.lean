/- Texts joined: MSt. -/
import Derived.Test.YtihigekgnnoejaaGreatDoorJ2
import Derived.Test.YtihigekgnnoejaaGreatDoorAb7
import Derived.Shelf.Strconv.Itoa3
import Derived.Shelf.Strconv.Atoi
import Derived.KernelRfl
set_option maxRecDepth 100000
set_option linter.unusedVariables false
set_option linter.unusedSimpArgs false
section
namespace Go.Proofs.YtihigekgnnoejaaGreatDoor.mdl
open Go Go.Abs Go.Proofs Go.RowKit Go.Shelf
def laysItoa_ren:Go.Shelf.Ren:=⟨fun | 171=>148 | 243=>164 | 246=>178 | 283=>186 | 284=>187 | 285=>188 | 286=>189 | 129=>198 | 317=>197 | 318=>199 | 319=>200 | 320=>201 | 337=>208 | 338=>209 | n=>n,fun | 3=>3 | 9=>9 | 2=>2 | 4=>4 | 171=>235 | 0=>0 | 53=>62 | 37=>218 | 5=>5 | 173=>238 | 212=>249 | 51=>250 | 20=>20 | 213=>251 | 46=>156 | 232=>103 | 233=>263 | n=>n,fun | 17=>3 | 18=>6 | 19=>7 | n=>n⟩
theorem laysItoa:Go.Proofs.LaysM.n171 Tryz.prog laysItoa_ren where
 mixed:=by kernel_rfl
 f129:=Tryz.func198.trans (congrArg some (by kernel_rfl))
 f171:=Tryz.func148.trans (congrArg some (by kernel_rfl))
 f243:=Tryz.func164.trans (congrArg some (by kernel_rfl))
 f246:=Tryz.func178.trans (congrArg some (by kernel_rfl))
 f283:=Tryz.func186.trans (congrArg some (by kernel_rfl))
 f284:=Tryz.func187.trans (congrArg some (by kernel_rfl))
 f285:=Tryz.func188.trans (congrArg some (by kernel_rfl))
 f286:=Tryz.func189.trans (congrArg some (by kernel_rfl))
 f317:=Tryz.func197.trans (congrArg some (by kernel_rfl))
 f318:=Tryz.func199.trans (congrArg some (by kernel_rfl))
 f319:=Tryz.func200.trans (congrArg some (by kernel_rfl))
 f320:=Tryz.func201.trans (congrArg some (by kernel_rfl))
 f337:=Tryz.func208.trans (congrArg some (by kernel_rfl))
 f338:=Tryz.func209.trans (congrArg some (by kernel_rfl))
 t0:=Tryz.underlying0
 a0:=Tryz.isAgg0
 z0:=Tryz.sizeOf0
 v0:=Tryz.zeroValue0
 t2:=Tryz.underlying2
 a2:=Tryz.isAgg2
 z2:=Tryz.sizeOf2
 v2:=Tryz.zeroValue2
 t3:=Tryz.underlying3
 a3:=Tryz.isAgg3
 z3:=Tryz.sizeOf3
 v3:=Tryz.zeroValue3
 t4:=Tryz.underlying4
 a4:=Tryz.isAgg4
 z4:=Tryz.sizeOf4
 v4:=Tryz.zeroValue4
 t5:=Tryz.underlying5
 a5:=Tryz.isAgg5
 z5:=Tryz.sizeOf5
 v5:=Tryz.zeroValue5
 t9:=Tryz.underlying9
 a9:=Tryz.isAgg9
 z9:=Tryz.sizeOf9
 v9:=Tryz.zeroValue9
 t20:=Tryz.underlying20
 a20:=Tryz.isAgg20
 z20:=Tryz.sizeOf20
 v20:=Tryz.zeroValue20
 t37:=Tryz.underlying218
 a37:=Tryz.isAgg218
 z37:=Tryz.sizeOf218
 v37:=Tryz.zeroValue218
 t46:=Tryz.underlying156
 a46:=Tryz.isAgg156
 z46:=Tryz.sizeOf156
 v46:=Tryz.zeroValue156
 t51:=Tryz.underlying250
 a51:=Tryz.isAgg250
 z51:=Tryz.sizeOf250
 v51:=Tryz.zeroValue250
 t53:=Tryz.underlying62
 a53:=Tryz.isAgg62
 z53:=Tryz.sizeOf62
 v53:=Tryz.zeroValue62
 t171:=Tryz.underlying235
 a171:=Tryz.isAgg235
 z171:=Tryz.sizeOf235
 v171:=Tryz.zeroValue235
 t173:=Tryz.underlying238
 a173:=Tryz.isAgg238
 z173:=Tryz.sizeOf238
 v173:=Tryz.zeroValue238
 t212:=Tryz.underlying249
 a212:=Tryz.isAgg249
 z212:=Tryz.sizeOf249
 v212:=Tryz.zeroValue249
 t213:=Tryz.underlying251
 a213:=Tryz.isAgg251
 z213:=Tryz.sizeOf251
 t232:=Tryz.underlying103
 a232:=Tryz.isAgg103
 z232:=Tryz.sizeOf103
 v232:=Tryz.zeroValue103
 t233:=Tryz.underlying263
 a233:=Tryz.isAgg263
 z233:=Tryz.sizeOf263
 v233:=Tryz.zeroValue263
 g17:=by kernel_rfl
 g18:=by kernel_rfl
 g19:=by kernel_rfl
 i0:=by kernel_rfl
 i2:=by kernel_rfl
 i3:=by kernel_rfl
 i4:=by kernel_rfl
 i5:=by kernel_rfl
 i9:=by kernel_rfl
 i20:=by kernel_rfl
 i37:=by kernel_rfl
 i46:=by kernel_rfl
 i51:=by kernel_rfl
 i53:=by kernel_rfl
 i171:=by kernel_rfl
 i173:=by kernel_rfl
 i212:=by kernel_rfl
 i232:=by kernel_rfl
 i233:=by kernel_rfl
 m17:=by kernel_rfl
 m18:=by kernel_rfl
 m19:=by kernel_rfl
def laysAtoi_ren:Go.Shelf.Ren:=⟨fun | 172=>147 | 244=>162 | 245=>163 | 247=>173 | 279=>174 | 280=>175 | 281=>176 | 282=>177 | 287=>183 | 316=>184 | 171=>148 | 205=>185 | 321=>195 | 322=>196 | 243=>164 | 246=>178 | 283=>186 | 284=>187 | 285=>188 | 286=>189 | 129=>198 | 317=>197 | 318=>199 | 319=>200 | 320=>201 | 337=>208 | 338=>209 | n=>n,fun | 9=>9 | 3=>3 | 75=>193 | 76=>194 | 4=>4 | 5=>5 | 167=>217 | 37=>218 | 0=>0 | 85=>219 | 2=>2 | 168=>221 | 53=>62 | 175=>229 | 46=>156 | 210=>233 | 127=>243 | 145=>246 | 143=>244 | 21=>21 | 171=>235 | 173=>238 | 212=>249 | 51=>250 | 20=>20 | 213=>251 | 232=>103 | 233=>263 | 80=>264 | n=>n,fun | 15=>1 | 16=>2 | 17=>3 | 18=>6 | 19=>7 | n=>n⟩
theorem laysAtoi:Go.Proofs.Lays.n172 Tryz.prog laysAtoi_ren where
 mixed:=by kernel_rfl
 f129:=Tryz.func198.trans (congrArg some (by kernel_rfl))
 f171:=Tryz.func148.trans (congrArg some (by kernel_rfl))
 f172:=Tryz.func147.trans (congrArg some (by kernel_rfl))
 f205:=Tryz.func185.trans (congrArg some (by kernel_rfl))
 f243:=Tryz.func164.trans (congrArg some (by kernel_rfl))
 f244:=Tryz.func162.trans (congrArg some (by kernel_rfl))
 f245:=Tryz.func163.trans (congrArg some (by kernel_rfl))
 f246:=Tryz.func178.trans (congrArg some (by kernel_rfl))
 f247:=Tryz.func173.trans (congrArg some (by kernel_rfl))
 f279:=Tryz.func174.trans (congrArg some (by kernel_rfl))
 f280:=Tryz.func175.trans (congrArg some (by kernel_rfl))
 f281:=Tryz.func176.trans (congrArg some (by kernel_rfl))
 f282:=Tryz.func177.trans (congrArg some (by kernel_rfl))
 f283:=Tryz.func186.trans (congrArg some (by kernel_rfl))
 f284:=Tryz.func187.trans (congrArg some (by kernel_rfl))
 f285:=Tryz.func188.trans (congrArg some (by kernel_rfl))
 f286:=Tryz.func189.trans (congrArg some (by kernel_rfl))
 f287:=Tryz.func183.trans (congrArg some (by kernel_rfl))
 f316:=Tryz.func184.trans (congrArg some (by kernel_rfl))
 f317:=Tryz.func197.trans (congrArg some (by kernel_rfl))
 f318:=Tryz.func199.trans (congrArg some (by kernel_rfl))
 f319:=Tryz.func200.trans (congrArg some (by kernel_rfl))
 f320:=Tryz.func201.trans (congrArg some (by kernel_rfl))
 f321:=Tryz.func195.trans (congrArg some (by kernel_rfl))
 f322:=Tryz.func196.trans (congrArg some (by kernel_rfl))
 f337:=Tryz.func208.trans (congrArg some (by kernel_rfl))
 f338:=Tryz.func209.trans (congrArg some (by kernel_rfl))
 t0:=Tryz.underlying0
 a0:=Tryz.isAgg0
 z0:=Tryz.sizeOf0
 v0:=Tryz.zeroValue0
 t2:=Tryz.underlying2
 a2:=Tryz.isAgg2
 z2:=Tryz.sizeOf2
 v2:=Tryz.zeroValue2
 t3:=Tryz.underlying3
 a3:=Tryz.isAgg3
 z3:=Tryz.sizeOf3
 v3:=Tryz.zeroValue3
 t4:=Tryz.underlying4
 a4:=Tryz.isAgg4
 z4:=Tryz.sizeOf4
 v4:=Tryz.zeroValue4
 t5:=Tryz.underlying5
 a5:=Tryz.isAgg5
 z5:=Tryz.sizeOf5
 v5:=Tryz.zeroValue5
 t9:=Tryz.underlying9
 a9:=Tryz.isAgg9
 z9:=Tryz.sizeOf9
 v9:=Tryz.zeroValue9
 t20:=Tryz.underlying20
 a20:=Tryz.isAgg20
 z20:=Tryz.sizeOf20
 v20:=Tryz.zeroValue20
 t21:=Tryz.underlying21
 a21:=Tryz.isAgg21
 z21:=Tryz.sizeOf21
 v21:=Tryz.zeroValue21
 t37:=Tryz.underlying218
 a37:=Tryz.isAgg218
 z37:=Tryz.sizeOf218
 v37:=Tryz.zeroValue218
 t46:=Tryz.underlying156
 a46:=Tryz.isAgg156
 z46:=Tryz.sizeOf156
 v46:=Tryz.zeroValue156
 t51:=Tryz.underlying250
 a51:=Tryz.isAgg250
 z51:=Tryz.sizeOf250
 v51:=Tryz.zeroValue250
 t53:=Tryz.underlying62
 a53:=Tryz.isAgg62
 z53:=Tryz.sizeOf62
 v53:=Tryz.zeroValue62
 t75:=Tryz.underlying193
 a75:=Tryz.isAgg193
 z75:=Tryz.sizeOf193
 v75:=Tryz.zeroValue193
 t76:=Tryz.underlying194
 a76:=Tryz.isAgg194
 z76:=Tryz.sizeOf194
 v76:=Tryz.zeroValue194
 t85:=Tryz.underlying219
 a85:=Tryz.isAgg219
 z85:=Tryz.sizeOf219
 v85:=Tryz.zeroValue219
 t127:=Tryz.underlying243
 a127:=Tryz.isAgg243
 z127:=Tryz.sizeOf243
 v127:=Tryz.zeroValue243
 t143:=Tryz.underlying244
 a143:=Tryz.isAgg244
 z143:=Tryz.sizeOf244
 v143:=Tryz.zeroValue244
 t145:=Tryz.underlying246
 a145:=Tryz.isAgg246
 z145:=Tryz.sizeOf246
 v145:=Tryz.zeroValue246
 t167:=Tryz.underlying217
 a167:=Tryz.isAgg217
 z167:=Tryz.sizeOf217
 v167:=Tryz.zeroValue217
 t168:=Tryz.underlying221
 a168:=Tryz.isAgg221
 z168:=Tryz.sizeOf221
 v168:=Tryz.zeroValue221
 t171:=Tryz.underlying235
 a171:=Tryz.isAgg235
 z171:=Tryz.sizeOf235
 v171:=Tryz.zeroValue235
 t173:=Tryz.underlying238
 a173:=Tryz.isAgg238
 z173:=Tryz.sizeOf238
 v173:=Tryz.zeroValue238
 t175:=Tryz.underlying229
 a175:=Tryz.isAgg229
 z175:=Tryz.sizeOf229
 v175:=Tryz.zeroValue229
 t210:=Tryz.underlying233
 a210:=Tryz.isAgg233
 z210:=Tryz.sizeOf233
 v210:=Tryz.zeroValue233
 t212:=Tryz.underlying249
 a212:=Tryz.isAgg249
 z212:=Tryz.sizeOf249
 v212:=Tryz.zeroValue249
 t213:=Tryz.underlying251
 a213:=Tryz.isAgg251
 z213:=Tryz.sizeOf251
 t232:=Tryz.underlying103
 a232:=Tryz.isAgg103
 z232:=Tryz.sizeOf103
 v232:=Tryz.zeroValue103
 t233:=Tryz.underlying263
 a233:=Tryz.isAgg263
 z233:=Tryz.sizeOf263
 v233:=Tryz.zeroValue263
 g15:=by kernel_rfl
 g16:=by kernel_rfl
 g17:=by kernel_rfl
 g18:=by kernel_rfl
 g19:=by kernel_rfl
theorem itoaAt:ItoaAt Tryz.prog 148:=fun n w h0 h1 ht=>Calls.mono (Any.strconv_Itoa laysItoa n (by omega) (by omega) w ht) fun e w' ⟨he,k,os,hw⟩=>⟨he,by rw [hw];exact Lib.below_grow _ w (Nat.le_refl _) k os⟩
theorem atoiAt:AtoiAt Tryz.prog 147:=fun s n w h0 h1=>Calls.mono (Any.strconv_Atoi laysAtoi s n h0 h1 w) fun e w' ⟨he,t,hw⟩=>⟨he,by rw [hw];exact Lib.bytesWorld_below _ _ _⟩
theorem xCnt:ExtOK Tryz.prog 193 Extern.BytealgCount.count:=⟨_,Tryz.func193,by kernel_rfl,by kernel_rfl,by kernel_rfl,by kernel_rfl⟩
theorem xIdx:ExtOK Tryz.prog 211 Extern.BytealgIndexByte.indexByte:=⟨_,Tryz.func211,by kernel_rfl,by kernel_rfl,by kernel_rfl,by kernel_rfl⟩
theorem xCmp:ExtOK Tryz.prog 166 Extern.BytealgCompare.compare:=⟨_,Tryz.func166,by kernel_rfl,by kernel_rfl,by kernel_rfl,by kernel_rfl⟩
theorem xAdd:ExtOK Tryz.prog 210 add64Entry:=⟨_,Tryz.func210,by kernel_rfl,by kernel_rfl,by kernel_rfl,by kernel_rfl⟩
theorem xOvHeld:ExtOK Tryz.prog 131 (Extern.SlicesOverlaps.overlaps #[25,25] #[4]):=⟨_,Tryz.func131,by kernel_rfl,by kernel_rfl,by kernel_rfl,by kernel_rfl⟩
theorem xOvMatrix:ExtOK Tryz.prog 117 (Extern.SlicesOverlaps.overlaps #[26,26] #[4]):=⟨_,Tryz.func117,by kernel_rfl,by kernel_rfl,by kernel_rfl,by kernel_rfl⟩
theorem xOvRow:ExtOK Tryz.prog 111 (Extern.SlicesOverlaps.overlaps #[41,41] #[4]):=⟨_,Tryz.func111,by kernel_rfl,by kernel_rfl,by kernel_rfl,by kernel_rfl⟩
theorem xOvint:ExtOK Tryz.prog 115 (Extern.SlicesOverlaps.overlaps #[82,82] #[4]):=⟨_,Tryz.func115,by kernel_rfl,by kernel_rfl,by kernel_rfl,by kernel_rfl⟩
noncomputable def s0:Sums:=fun f args h =>
 cond (Nat.beq f 193) (sumCount args h) <|
 cond (Nat.beq f 211) (sumIndex args h) <|
 cond (Nat.beq f 166) (sumCmp args h) <|
 cond (Nat.beq f 210) (sumAdd args h) <|
 cond (Nat.beq f 148) (sumItoa args h) <|
 cond (Nat.beq f 147) (sumAtoi args h) <|
 cond (Nat.beq f 131) (sumOver args h) <|
 cond (Nat.beq f 117) (sumOver args h) <|
 cond (Nat.beq f 111) (sumOver args h) <|
 cond (Nat.beq f 115) (sumOver args h) <|
 none
theorem s0_ok:SumsOK Tryz.prog s0:=by
 intro K ρ h w f args cargs v h' hR hv hs
 unfold s0 at hs
 by_cases h0:f=193
 ·subst h0;exact sumCount_ok xCnt hR hv hs
 by_cases h1:f=211
 ·subst h1;exact sumIndex_ok xIdx hR hv hs
 by_cases h2:f=166
 ·subst h2;exact sumCmp_ok xCmp hR hv hs
 by_cases h3:f=210
 ·subst h3;exact sumAdd_ok xAdd hR hv hs
 by_cases h4:f=148
 ·subst h4;exact sumItoa_ok itoaAt (by kernel_rfl) (by kernel_rfl) hR hv hs
 by_cases h5:f=147
 ·subst h5;exact sumAtoi_ok atoiAt (by kernel_rfl) hR hv hs
 by_cases h6:f=131
 ·subst h6;exact sumOver_ok Tryz.underlying25 tz49 xOvHeld hR hv hs
 by_cases h7:f=117
 ·subst h7;exact sumOver_ok Tryz.underlying26 tz43 xOvMatrix hR hv hs
 by_cases h8:f=111
 ·subst h8;exact sumOver_ok Tryz.underlying41 tz84 xOvRow hR hv hs
 by_cases h9:f=115
 ·subst h9;exact sumOver_ok Tryz.underlying82 tz3 xOvint hR hv hs
 simp only [nbeq,h0,h1,h2,h3,h4,h5,h6,h7,h8,h9,decide_false,cond_false] at hs
 cases hs
theorem mi0:Mi s0 where
 no:=by rintro f args h (rfl | rfl | rfl | rfl | rfl | rfl) <;> rfl
 ov:=by rintro f args h (rfl | rfl | rfl | rfl) <;> rfl
noncomputable def s1:Sums:=fun f args h =>
 cond (Nat.beq f 102) (sumIns 12 args h) <|
 cond (Nat.beq f 89) (sumIns 2 args h) <|
 cond (Nat.beq f 84) (sumIns 2 args h) <|
 cond (Nat.beq f 88) (sumIns 1 args h) <|
 cond (Nat.beq f 85) (sumDel 2 args h) <|
 cond (Nat.beq f 87) (sumDel 1 args h) <|
 s0 f args h
theorem s1_ok:SumsOK Tryz.prog s1:=by
 intro K ρ h w f args cargs v h' hR hv hs
 unfold s1 at hs
 by_cases h0:f=102
 ·subst h0;exact sumIns_ok s0_ok (fun h id n i K jd cs J xs d a1 a2 a3 a4 a5 a6 a7 a8 a9 b1 b2 b3 b4=>insHdR mi0 a1 a2 a3 a4 a5 a6 a7 a8 a9 b1 b2 b3 b4) hR hv hs
 by_cases h1:f=89
 ·subst h1;exact sumIns_ok s0_ok (fun h id n i K jd cs J xs d a1 a2 a3 a4 a5 a6 a7 a8 a9 b1 b2 b3 b4=>insMtR mi0 a1 a2 a3 a4 a5 a6 a7 a8 a9 b1 b2 b3 b4) hR hv hs
 by_cases h2:f=84
 ·subst h2;exact sumIns_ok s0_ok (fun h id n i K jd cs J xs d a1 a2 a3 a4 a5 a6 a7 a8 a9 b1 b2 b3 b4=>insRwR mi0 a1 a2 a3 a4 a5 a6 a7 a8 a9 b1 b2 b3 b4) hR hv hs
 by_cases h3:f=88
 ·subst h3;exact sumIns_ok s0_ok (fun h id n i K jd cs J xs d a1 a2 a3 a4 a5 a6 a7 a8 a9 b1 b2 b3 b4=>insInR mi0 a1 a2 a3 a4 a5 a6 a7 a8 a9 b1 b2 b3 b4) hR hv hs
 by_cases h4:f=85
 ·subst h4;exact sumDel_ok s0_ok (fun h id n i K cs J a1 a2 a3 a4 a5 a6 a7=>delRwR mi0 a1 a2 a3 a4 a5 a6 a7) hR hv hs
 by_cases h5:f=87
 ·subst h5;exact sumDel_ok s0_ok (fun h id n i K cs J a1 a2 a3 a4 a5 a6 a7=>delInR mi0 a1 a2 a3 a4 a5 a6 a7) hR hv hs
 simp only [nbeq,h0,h1,h2,h3,h4,h5,decide_false,cond_false] at hs
 exact s0_ok K ρ h w f args cargs v h' hR hv hs
def isTrue:Option (AV×AH)→Bool
 | some (.bool true,_)=>true
 | _=>false
theorem isTrue_eq {r:Option (AV×AH)} (h:isTrue r=true):∃h',r=some (.bool true,h'):=by
 unfold isTrue at h
 split at h
 ·exact ⟨_,rfl⟩
 ·cases h
theorem livesRun:isTrue ((evN Tryz.prog s1 3000).call 5 [] { tr:=.nil,nx:=0 })=true:=by kernel_rfl
noncomputable def s2:Sums:=fun f args h=>cond (Nat.beq f 5) (match args with | []=>some (.bool true,h) | _=>none) (s1 f args h)
theorem s2_ok:SumsOK Tryz.prog s2:=by
 intro K ρ h w f args cargs v h' hR hv hs
 unfold s2 at hs
 rw [nat_beq_dec] at hs
 by_cases h8:f=5
 ·subst h8
  simp only [decide_true,cond_true] at hs
  split at hs
  ·cases hs
   obtain ⟨h0,hc⟩:=isTrue_eq livesRun
   exact sumClosed_ok s1_ok hc (fun ρ ρ' cv hx=>by cases hx;exact .bool _) hR hv
  ·cases hs
 ·simp only [h8,decide_false,cond_false] at hs
  exact s1_ok K ρ h w f args cargs v h' hR hv hs
theorem s2_none (f:FuncId) (args:List AV) (h:AH) (hf:f∉([5,102,89,84,88,85,87,193,211,166,210,148,147,131,117,111,115]:List Nat)):s2 f args h=none:=by
 simp only [List.mem_cons,not_or,List.not_mem_nil,not_false_eq_true,and_true] at hf
 obtain ⟨k0,k1,k2,k3,k4,k5,k6,k7,k8,k9,k10,k11,k12,k13,k14,k15,k16⟩:=hf
 simp only [s2,s1,s0,nbeq,k0,k1,k2,k3,k4,k5,k6,k7,k8,k9,k10,k11,k12,k13,k14,k15,k16,decide_false,cond_false]
theorem nin {l m:List Nat} (hd:∀x∈l,x∉m) {f:Nat} (hf:f∈l):f∉m:=hd f hf
theorem s2_nz:Nz s2 where
 nv f args h hf:=s2_none f args h (nin (by decide) hf)
 nr f args h hf:=s2_none f args h (nin (by decide) hf)
 nu f args h hf:=s2_none f args h (nin (by decide) hf)
 ng f args h hf:=s2_none f args h (nin (by decide) hf)
 nk f args h hf:=s2_none f args h (nin (by decide) hf)
 no f args h hf:=s2_none f args h (nin (by decide) hf)
 np f args h hf:=s2_none f args h (nin (by decide) hf)
 nx f args h hf:=s2_none f args h (nin (by decide) hf)
 ny f args h hf:=s2_none f args h (nin (by decide) hf)
 nz f args h hf:=s2_none f args h (nin (by decide) hf)
 na f args h hf:=s2_none f args h (nin (by decide) hf)
 nb f args h hf:=s2_none f args h (nin (by decide) hf)
 nf f args h hf:=s2_none f args h (nin (by decide) hf)
 nv9 f args h hf:=s2_none f args h (nin (by decide) hf)
 nw9 f args h hf:=s2_none f args h (nin (by decide) hf)
 nx8 f args h hf:=s2_none f args h (nin (by decide) hf)
 nz27 f args h hf:=s2_none f args h (nin (by decide) hf)
 cnt args h:=rfl
 idx args h:=rfl
 add a b h:=⟨_,_,rfl⟩
 cm a b h:=rfl
 insHd args h:=rfl
 insMt args h:=rfl
 insRw args h:=rfl
 insIn args h:=rfl
 delRw args h:=rfl
 delIn args h:=rfl
 atoi s h h1 h3 hb:=sumAtoi_at h1 h3 hb h
 itoa n h hn:=sumItoa_at hn h
 lives h:=rfl
end Go.Proofs.YtihigekgnnoejaaGreatDoor.mdl
end