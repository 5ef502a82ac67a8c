/- Texts joined: SPb, SPc. -/
import Derived.Test.YtaooopaemphfjaaGreatDoorJ2
import Derived.Test.YtaooopaemphfjaaGreatDoorH2
import Derived.Test.YtaooopaemphfjaaGreatDoorAb6
import Derived.ChangeShapes
import Derived.Test.YtaooopaemphfjaaGreatDoorAb7

section
namespace Go.Proofs.YtaooopaemphfjaaGreatDoor.tbl
open Go Go.Abs Go.Abs.Rec Go.Abs.Wal Go.Proofs Go.Proofs.YtaooopaemphfjaaGreatDoor.tre
set_option maxRecDepth 100000
set_option linter.unusedVariables false
set_option linter.unusedSimpArgs false
def pS:Pth:=[115]
theorem pSb:bytesOf { data:=#[115] }=pS:=by decide +kernel
theorem pSok:checkS pS=0:=by decide +kernel
theorem pSne:¬pS=tmpS++pS:=by decide +kernel
section
variable {S : Sums}
set_option maxHeartbeats 64000000 in
theorem parts3 (hS:Sw S) (hN:∀args h,S 3 args h=none) (hL:∀h,S 6 [] h=some (.bool true,h)) {h:AH} {x0 x1:AV} {l o:KL (List Nat×Bool)} {fr to:List Nat} {n:Int}
  (hx0:Ps h x0 l) (hx1:Ps h x1 o) (hb0:∀p∈l,byL p.1∧byL p.2.1) (hb1:∀p∈o,byL p.1∧byL p.2.1):RnC Tryz.prog S 3 [x0,x1,.str fr,.str to,.int .i64 n] h fun r _=>r=.bool true:=by
 refine RnC.enter' Tryz.f3 _ 166 [.tmp 10] (hN _ _) bd3 Tryz.func3 rfl rfl rfl ?_
 obtain ⟨lv0,s0,o0⟩:=hx0.ln
 obtain ⟨lv1,s1,o1⟩:=hx1.ln
 have ls:∀g s,evLen Tryz.prog g #[9] (.str s)=some (.int .i64 ((s.length:Nat):Int)):=fun g s=>by simp [evLen,Tryz.underlying9]
 simp (maxSteps:=1000000) -dsimp (disch:=(repeat first | rw [nxn] | rw [nxp]);try omega) only [go_sem]
 refine callK_of (RnC.sum (hL _) (Q:=fun v h'=>v=.bool true∧h'=h) ⟨rfl,rfl⟩) ?_
 rintro r g ⟨rfl,rfl⟩
 simp (maxSteps:=1000000) -dsimp (disch:=(repeat first | rw [nxn] | rw [nxp]);try omega) only [go_sem,o0,o1]
 refine callK_of (lightS hS hx0 (N:=60) (M:=300) (by decide) (by decide)) ?_
 rintro w g1 ⟨f1,b1,rfl,hl1⟩
 cases b1
 ·simp (maxSteps:=1000000) -dsimp (disch:=(repeat first | rw [nxn] | rw [nxp]);try omega) only [go_sem,o0,o1]
 simp (maxSteps:=1000000) -dsimp (disch:=(repeat first | rw [nxn] | rw [nxp]);try omega) only [go_sem,o0,o1]
 refine callK_of (lightS hS (hx1.fr f1) (N:=60) (M:=300) (by decide) (by decide)) ?_
 rintro w g2 ⟨f2,b2,rfl,hl2⟩
 cases b2
 ·simp (maxSteps:=1000000) -dsimp (disch:=(repeat first | rw [nxn] | rw [nxp]);try omega) only [go_sem,o0,o1]
 by_cases hfl:300<fr.length
 ·have cf:(300:Int)<((fr.length:Nat):Int):=by omega
  simp (maxSteps:=1000000) -dsimp (disch:=(repeat first | rw [nxn] | rw [nxp]);try omega) only [go_sem,ls,cf]
 have cf:¬(300:Int)<((fr.length:Nat):Int):=by omega
 by_cases htl:300<to.length
 ·have ct:(300:Int)<((to.length:Nat):Int):=by omega
  simp (maxSteps:=1000000) -dsimp (disch:=(repeat first | rw [nxn] | rw [nxp]);try omega) only [go_sem,ls,cf,ct]
 have ct:¬(300:Int)<((to.length:Nat):Int):=by omega
 obtain ⟨nl,wl⟩:=hl1 rfl
 obtain ⟨no,wo⟩:=hl2 rfl
 obtain ⟨wl1,_⟩:=wM_eq wl
 obtain ⟨wo1,_⟩:=wM_eq wo
 have gl:Gd l:=⟨by omega,by omega,hb0⟩
 have go:Gd o:=⟨by omega,by omega,hb1⟩
 have glo:Gd (l++o):=Gd.app ⟨nl,wl1,hb0⟩ ⟨no,wo1,hb1⟩
 simp (maxSteps:=1000000) -dsimp (disch:=(repeat first | rw [nxn] | rw [nxp]);try omega) only [go_sem,ls,cf,ct]
 refine callK_of (newC hS.wl.toSt (1048576:Int)) ?_
 rintro r g3 ⟨f3,hr⟩
 rw [if_pos (by omega)] at hr
 obtain ⟨rfl,n3,hT3⟩:=hr
 simp (maxSteps:=1000000) -dsimp (disch:=(repeat first | rw [nxn] | rw [nxp]);try omega) only [go_sem]
 refine callK_of (newC hS.wl.toSt (1048576:Int)) ?_
 rintro r g4 ⟨f4,hr⟩
 rw [if_pos (by omega)] at hr
 obtain ⟨rfl,n4,hT4⟩:=hr
 have f12:=f1.trans f2
 have n12:=f12.nx
 obtain ⟨A,B,hA4,hB4,d4⟩:∃A B:Nat→Nat,TA A g4 (g2.nx+2) (newT 1048576)∧TA B g4 (g3.nx+2) (newT 1048576)∧D2 g g4 A B:=by
  refine ⟨_,_,TA.fr (⟨⟨_,_,_,_,_,hT3,fun j hj=>hj⟩,hT3.top⟩:TA _ g3 _ _) f4,⟨⟨_,_,_,_,_,hT4,fun j hj=>hj⟩,hT4.top⟩,⟨fun j hj=>?_,fun j hj=>hT3.top j (by omega),hT4.top,(f12.trans f3).trans f4,fun j hj=>?_,fun j hj=>?_⟩⟩
  ·have h1:j<g3.nx:=Nat.lt_of_not_le fun hh=>hj (hT3.top j hh)
   rw [if_neg (by omega),if_neg (by omega),if_neg (by omega)]
  ·rw [if_neg (by omega),if_neg (by omega),if_neg (by omega)]
  ·rw [if_neg (by omega),if_neg (by omega),if_neg (by omega)]
 clear hT3 hT4
 generalize g2.nx+2=pa at hA4
 generalize g3.nx+2=pb at hB4
 -- both opened
 simp (maxSteps:=1000000) -dsimp (disch:=(repeat first | rw [nxn] | rw [nxp]);try omega) only [go_sem,pSb]
 refine callK_of (openS hS (J:=fun j=>A j+B j) hA4 (fun j hj=>by show A j+B j≠0;omega) d4.top (Bm.new _) (by decide) (by decide) pSok (fun i hi=>by simp [newT,valS] at hi) (gr:=1000) (wt_new pSne (by decide)) rfl (by decide) (fun x hx=>by cases hx) (fun i=>by simp [itX])) ?_
 rintro r g5 ⟨A5,La,Qa,tva,ta,rfl,hsA,gA,_,_,htA,hiA,hrA,hHA⟩
 have d5:=d4.gr gA hsA.top
 have hB5:=hB4.kp gA.nx (d4.dj.kp gA d4.td)
 have htA5:=tp2 htA
 simp (maxSteps:=1000000) -dsimp (disch:=(repeat first | rw [nxn] | rw [nxp]);try omega) only [go_sem,pSb]
 refine callK_of (openS hS (J:=fun j=>B j+A5 j) hB5 (fun j hj=>by show B j+A5 j≠0;omega) d5.swap.top (Bm.new _) (by decide) (by decide) pSok (fun i hi=>by simp [newT,valS] at hi) (gr:=1000) (wt_new pSne (by decide)) rfl (by decide) (fun x hx=>by cases hx) (fun i=>by simp [itX])) ?_
 rintro r g6 ⟨B6,Lb,Qb,tvb,tb,rfl,hsB,gB,_,_,htB,hiB,hrB,hHB⟩
 have d6:=(d5.swap.gr gB hsB.top).swap
 have hsA6:=hsA.kp gB.nx (d5.swap.dj.kp gB d5.tc)
 have htB6:=tp2 htB
 have htA6:=tpc (tp2 (tpGr (J:=fun j=>B j+A5 j) (fun j hj=>by show B j+A5 j≠0;omega) gB (tpc htA5)))
 clear htA htB htA5 hsA
 -- the first batch
 obtain ⟨v7,g7,ha7,f7,hz7,ov7⟩:=appP (h0:=g6) (h:=g6.new (.cells [] true true)) (m:=l) (ez0 g6) ((hx0.fr d6.fr).fr (Fr.new _ _)) (Fr.new _ _) (by simp;omega)
 rw [List.nil_append] at hz7
 simp (maxSteps:=1000000) -dsimp (disch:=(repeat first | rw [nxn] | rw [nxp]);try omega) only [go_sem,o0,ha7,ov7]
 have d7:=d6.more f7
 refine callK_of (batch2 hS (R:=1048576) (c:=3) (st:=2) (a:=[]) (x:=[]) (Lk:=[]) d7 (hsA6.fr f7) pSok (by decide) (Nat.zero_le _) (by decide) (Nat.zero_le _) (by decide) (htA6.fr f7) hiA trivial (Nat.zero_le _) (Ps.of hz7) (fun id o n z c hh=>d6.tc id (ezGe hz7 hh)) gl) ?_
 rintro r g8 ⟨rfl,A8,tva8,ta8,c8,st8,a8,x8,hsA8,d8,gA8,htA8,hrA8,hHA8,hc8,e8,n8⟩
 have hsB8:=(hsB.fr f7).kp gA8.nx (d7.dj.kp gA8 d7.td)
 have htB8:=tp2 (tpGr (J:=fun j=>A5 j+B6 j) (fun j hj=>by show A5 j+B6 j≠0;omega) gA8 ((tpc htB6).fr f7))
 -- the second
 obtain ⟨v9,g9,ha9,f9,hz9,ov9⟩:=appP (h0:=g8) (h:=g8.new (.cells [] true true)) (m:=o) (ez0 g8) ((hx1.fr d8.fr).fr (Fr.new _ _)) (Fr.new _ _) (by simp;omega)
 rw [List.nil_append] at hz9
 simp (maxSteps:=1000000) -dsimp (disch:=(repeat first | rw [nxn] | rw [nxp]);try omega) only [go_sem,o1,ha9,ov9]
 have hll:=gl.len
 have hlo:=go.len
 have hlen8:(frs a8).length≤1000∧a8.length≤1∧(ino ta8).length≤60:=by
  by_cases hh:(recP l).2=0
  ·rw [(e8 hh).1,(e8 hh).2]
   have:=(done_rise (lastD l) (L:=[]) trivial).2
   have:=last_len l
   simp only [List.length_nil,List.nil_append] at *
   refine ⟨?_,by simp,by omega⟩
   rw [frs_sum]
   simp [sumL]
   omega
  ·rw [(n8 hh).1,(n8 hh).2]
   exact ⟨Nat.zero_le _,Nat.zero_le _,Nat.zero_le _⟩
 have d9:=d8.more f9
 refine callK_of (batch2 hS (R:=1048576) (Lk:=ino ta8) d9 (hsA8.fr f9) pSok (by omega) hlen8.1 (by decide) (by omega) (by omega) (htA8.fr f9) rfl hrA8 (by omega) (Ps.of hz9) (fun id o n z c hh=>d8.tc id (ezGe hz9 hh)) go) ?_
 rintro r g10 ⟨rfl,A10,tva10,ta10,c10,st10,a10,x10,hsA10,d10,gA10,htA10,hrA10,hHA10,hc10,e10,n10⟩
 have hsB10:=(hsB8.fr f9).kp gA10.nx (d9.dj.kp gA10 d9.td)
 have htB10:=tp2 (tpGr (J:=fun j=>A8 j+B6 j) (fun j hj=>by show A8 j+B6 j≠0;omega) gA10 (htB8.fr f9))
 -- all at once
 obtain ⟨v11,g11,ha11,f11,hz11,ov11⟩:=appP (h0:=g10) (h:=g10.new (.cells [] true true)) (m:=l) (ez0 g10) ((hx0.fr d10.fr).fr (Fr.new _ _)) (Fr.new _ _) (by simp;omega)
 rw [List.nil_append] at hz11
 obtain ⟨v12,g12,ha12,f12',hz12,ov12⟩:=appP (h0:=g10) (h:=g11) (m:=o) hz11 ((hx1.fr d10.fr).fr f11) f11 (by omega)
 simp (maxSteps:=1000000) -dsimp (disch:=(repeat first | rw [nxn] | rw [nxp]);try omega) only [go_sem,o0,o1,ha11,ov11,ha12,ov12]
 have d12:=d10.more f12'
 refine callK_of (batch2 hS (R:=1048576) (c:=3) (st:=2) (a:=[]) (x:=[]) (Lk:=[]) d12.swap (hsB10.fr f12') pSok (by decide) (Nat.zero_le _) (by decide) (Nat.zero_le _) (by decide) ((tpc htB10).fr f12') hiB trivial (Nat.zero_le _) (Ps.of hz12) (fun id o n z c hh=>d10.td id (ezGe hz12 hh)) glo) ?_
 rintro r g13 ⟨rfl,B13,tvb13,tb13,c13,st13,a13,x13,hsB13,d13,gB13,htB13,hrB13,hHB13,hc13,e13,n13⟩
 have hsA13:=(hsA10.fr f12').kp gB13.nx (d12.swap.dj.kp gB13 d12.tc)
 have htA13:=tp2 (tpGr (J:=fun j=>B6 j+A10 j) (fun j hj=>by show B6 j+A10 j≠0;omega) gB13 ((tpc htA10).fr f12'))
 by_cases hok:(recP l).2=0∧(recP o).2=0
 ·obtain ⟨kl,ko⟩:=hok
  have kz:=recP_app.2 ⟨kl,ko⟩
  have cl:(((recP l).2:Nat):Int)=0:=by omega
  have co:(((recP o).2:Nat):Int)=0:=by omega
  have cz:(((recP (l++o)).2:Nat):Int)=0:=by omega
  have hbs:∀b∈[l,o],Gd b∧(recP b).2=0:=fun b hb=>by
   rcases List.mem_cons.1 hb with rfl | hb
   ·exact ⟨gl,kl⟩
   ·rw [List.mem_singleton.1 hb];exact ⟨go,ko⟩
  have ea:a10=recs [l,o]:=by rw [(e10 ko).1,(e8 kl).1];rfl
  have ia:ino ta10=dones [] [l,o]:=by rw [(e10 ko).2,(e8 kl).2];rfl
  have ib:ino tb13=dones [] [l,o]:=by rw [(e13 kz).2];exact (done_two (L:=[]) trivial l o).symm
  obtain ⟨rl1,rl2⟩:=recs_len (bs:=[l,o]) fun b hb=>(hbs b hb).1
  simp only [List.length_cons,List.length_nil] at rl1
  obtain ⟨K,nm,sm,chv,ρ,hT,hC,kL,kQ⟩:=hsA13.tr
  have tK:TA K g13 pa (Wx 1048576 pS c10 st10 a10 x10 []).T:=⟨⟨K,nm,sm,chv,ρ,hT,fun j hj=>hj⟩,hT.top⟩
  have hQa:=hsA13.qcc
  have hQb:=hsB13.qcc
  have kQb:K Qb=0:=Decidable.byContradiction fun hh=>hsB13.cq (d13.swap.dj Qb (hC Qb hh))
  simp (maxSteps:=1000000) -dsimp (disch:=(repeat first | rw [nxn] | rw [nxp]);try omega) only [go_sem,cl,co,pSb]
  generalize hT1:Go.Abs.Tr.set _ _ _=uu1
  have u1_2:uu1.get 2=some (.str fr):=by rw [←hT1];simp only [go_sem]
  have u1_3:uu1.get 3=some (.str to):=by rw [←hT1];simp only [go_sem]
  have u1_4:uu1.get 4=some (.int .i64 n):=by rw [←hT1];simp only [go_sem]
  have u1_15:uu1.get 15=some (.ptr Qa 0):=by rw [←hT1];simp only [go_sem]
  have u1_16:uu1.get 16=some (.ptr Qb 0):=by rw [←hT1];simp only [go_sem]
  have u1_19:uu1.get 19=some (.int .i64 ((recP (l++o)).2:Nat)):=by rw [←hT1];simp only [go_sem]
  clear hT1
  refine callK_of (openS hS (J:=fun j=>A10 j+B13 j) tK (fun j hj=>by have:=hC j hj;show A10 j+B13 j≠0;omega) d13.swap.top wt_bm (by decide) (by omega) pSok (fun i hi=>by
   simp [Wx,Wt,valS] at hi
   subst hi
   show (frs a10).length≤_
   rw [ea]
   omega) (gr:=1000) (s:=recs [l,o]) (by rw [ea];exact wt_open pSne rl2) (telsX_own hbs) (by simp) (fun x hx=>by
   obtain ⟨b,hb,rfl⟩:=List.mem_map.1 hx
   exact fit_rec (hbs b hb).1) (fun i=>by
   rw [take_recs]
   have:=itX_own (L:=[]) (bs:=[l,o].take i) trivial fun b hb=>hbs b (List.mem_of_mem_take hb)
   have h2:([l,o].take i).length≤2:=by rw [List.length_take];simp;omega
   simp only [List.length_nil] at this
   omega)) ?_
  rintro r g14 ⟨C14,Lc,Qc',tvc,tc,rfl,hsC,gC,_,_,htC,hiC,hrC,hHC⟩
  have qa14:=hQa.gr gC kQ
  have qb14:=hQb.gr gC kQb
  have qc14:=hsC.qcc
  have hC':∀j,K j≠0→A10 j+B13 j≠0:=fun j hj=>by have:=hC j hj;omega
  have htA14:=tpGr (J:=fun j=>A10 j+B13 j) hC' gC (tpc htA13)
  have htB14:=tpGr (J:=fun j=>A10 j+B13 j) hC' gC (tpc htB13)
  have eab:ta10=tb13:=hp_uniq (ia.trans ib.symm) hrA10 (hHA10 (hHA8 hHA)) (hHB13 hHB)
  have eca:tc=ta10:=hp_uniq (hiC.trans ia.symm) (hiC▸hrC) hHC (hHA10 (hHA8 hHA))
  subst eab
  subst eca
  have hsz:tc.size≤1000:=by
   rw [Tp.size_eq,ia]
   have h1:=done_rise (lastD l) (L:=[]) trivial
   have h2:=(done_rise (lastD o) h1.1).2
   have:=last_len l
   have:=last_len o
   have h3:=h1.2
   simp only [List.length_nil] at h3
   show (doneP (doneP [] (lastD l)) (lastD o)).length≤_
   omega
  have hnl:(pf (nodT tc)).length≤1000000:=by
   simp only [pf,List.length_map]
   rw [nod_len]
   omega
  have hrl:∀m,(pf (eachR (goR to m) tc fr []).2).length≤1000000:=fun m=>by
   simp only [pf,List.length_map]
   have:=eachR_len (goR to m) tc fr []
   simp only [List.length_nil] at this
   omega
  have oa:=htA14.one.1
  have ob:=htB14.one.1
  have oc:=htC.one.1
  have oma:=oa
  have omb:=ob
  have omc:=oc
  unfold oneA at oma omb omc
  clear hT hsA13 hsB13 tK hsA10 hsA8 hsA6 hsB8 hsB10 hsB
  generalize (fun j=>C14 j+(A10 j+B13 j))=K14 at htA14 htB14 htC
  simp (maxSteps:=1000000) -dsimp (disch:=(repeat first | rw [nxn] | rw [nxp]);try omega) only [go_sem,u1_2,u1_3,u1_4,u1_15,u1_16,u1_19,cz]
  refine callK_of (stableC hS qa14 htA14) ?_
  rintro w g15 ⟨rfl,f15⟩
  try simp (maxSteps:=1000000) -dsimp (disch:=(repeat first | rw [nxn] | rw [nxp]);try omega) only [go_sem,u1_2,u1_3,u1_4,u1_15,u1_16,u1_19,oa,oma]
  refine callK_of (nodesC hS (htA14.fr f15) (by omega)) ?_
  rintro w16 g16 ⟨hp16,f16,_⟩
  have o16:=hp16.ln.2.2
  have f1416:=f15.trans f16
  try simp (maxSteps:=1000000) -dsimp (disch:=(repeat first | rw [nxn] | rw [nxp]);try omega) only [go_sem,u1_2,u1_3,u1_4,u1_15,u1_16,u1_19,o16]
  refine callK_of (stableC hS (qb14.fr f1416) (htB14.fr f1416)) ?_
  rintro w g17 ⟨rfl,f17⟩
  try simp (maxSteps:=1000000) -dsimp (disch:=(repeat first | rw [nxn] | rw [nxp]);try omega) only [go_sem,u1_2,u1_3,u1_4,u1_15,u1_16,u1_19,ob,omb]
  refine callK_of (nodesC hS ((htB14.fr f1416).fr f17) (by omega)) ?_
  rintro w18 g18 ⟨hp18,f18,_⟩
  have o18:=hp18.ln.2.2
  try simp (maxSteps:=1000000) -dsimp (disch:=(repeat first | rw [nxn] | rw [nxp]);try omega) only [go_sem,u1_2,u1_3,u1_4,u1_15,u1_16,u1_19,o16,o18]
  refine callK_of (pairsS hS (hp16.fr (f17.trans f18)) hp18 hnl) ?_
  rintro w g19 ⟨rfl,f19⟩
  have f1419:=((f1416.trans f17).trans f18).trans f19
  try simp (maxSteps:=1000000) -dsimp (disch:=(repeat first | rw [nxn] | rw [nxp]);try omega) only [go_sem,u1_2,u1_3,u1_4,u1_15,u1_16,u1_19]
  refine callK_of (stableC hS (qc14.fr f1419) (htC.fr f1419)) ?_
  rintro w g20 ⟨rfl,f20⟩
  try simp (maxSteps:=1000000) -dsimp (disch:=(repeat first | rw [nxn] | rw [nxp]);try omega) only [go_sem,u1_2,u1_3,u1_4,u1_15,u1_16,u1_19,oc,omc]
  refine callK_of (nodesC hS ((htC.fr f1419).fr f20) (by omega)) ?_
  rintro w21 g21 ⟨hp21,f21,_⟩
  have o21:=hp21.ln.2.2
  have f1421:=(f1419.trans f20).trans f21
  try simp (maxSteps:=1000000) -dsimp (disch:=(repeat first | rw [nxn] | rw [nxp]);try omega) only [go_sem,u1_2,u1_3,u1_4,u1_15,u1_16,u1_19,o21]
  refine callK_of (stableC hS (qa14.fr f1421) (htA14.fr f1421)) ?_
  rintro w g22 ⟨rfl,f22⟩
  try simp (maxSteps:=1000000) -dsimp (disch:=(repeat first | rw [nxn] | rw [nxp]);try omega) only [go_sem,u1_2,u1_3,u1_4,u1_15,u1_16,u1_19,oa,oma]
  refine callK_of (nodesC hS ((htA14.fr f1421).fr f22) (by omega)) ?_
  rintro w23 g23 ⟨hp23,f23,_⟩
  have o23:=hp23.ln.2.2
  try simp (maxSteps:=1000000) -dsimp (disch:=(repeat first | rw [nxn] | rw [nxp]);try omega) only [go_sem,u1_2,u1_3,u1_4,u1_15,u1_16,u1_19,o21,o23]
  refine callK_of (pairsS hS (hp21.fr (f22.trans f23)) hp23 hnl) ?_
  rintro w g24 ⟨rfl,f24⟩
  have f1424:=((f1421.trans f22).trans f23).trans f24
  try simp (maxSteps:=1000000) -dsimp (disch:=(repeat first | rw [nxn] | rw [nxp]);try omega) only [go_sem,u1_2,u1_3,u1_4,u1_15,u1_16,u1_19]
  generalize hT2:Go.Abs.Tr.set _ _ _=uu2
  have u2_2:uu2.get 2=some (.str fr):=by rw [←hT2];simp only [go_sem,u1_2,u1_3,u1_4,u1_15,u1_16,u1_19]
  have u2_3:uu2.get 3=some (.str to):=by rw [←hT2];simp only [go_sem,u1_2,u1_3,u1_4,u1_15,u1_16,u1_19]
  have u2_4:uu2.get 4=some (.int .i64 n):=by rw [←hT2];simp only [go_sem,u1_2,u1_3,u1_4,u1_15,u1_16,u1_19]
  have u2_15:uu2.get 15=some (.ptr Qa 0):=by rw [←hT2];simp only [go_sem,u1_2,u1_3,u1_4,u1_15,u1_16,u1_19]
  clear hT2
  refine callK_of (sgetC hS fr (qa14.fr f1424) (htA14.fr f1424)) ?_
  rintro w g25 ⟨rfl,f25⟩
  have f1425:=f1424.trans f25
  try simp (maxSteps:=1000000) -dsimp (disch:=(repeat first | rw [nxn] | rw [nxp]);try omega) only [go_sem,u2_2,u2_3,u2_4,u2_15]
  refine callK_of (stableC hS (qa14.fr f1425) (htA14.fr f1425)) ?_
  rintro w g26 ⟨rfl,f26⟩
  have f1426:=f1425.trans f26
  try simp (maxSteps:=1000000) -dsimp (disch:=(repeat first | rw [nxn] | rw [nxp]);try omega) only [go_sem,u2_2,u2_3,u2_4,u2_15,oa,oma]
  refine callK_of (getC hS.to.toTb fr (htA14.fr f1426)) ?_
  rintro w g27 ⟨rfl,f27⟩
  have f1427:=f1426.trans f27
  generalize (getT2 fr tc).getD []=vv
  generalize (getT2 fr tc).isSome=bb
  have eS:∀h,binA Tryz.prog h .eql 9 (.str vv) (.str vv)=some (.bool true):=fun h=>by rw [eqSt];simp
  have eB:∀h,binA Tryz.prog h .eql 4 (.bool bb) (.bool bb)=some (.bool true):=fun h=>by rw [eqBo];simp
  simp (maxSteps:=1000000) -dsimp (disch:=(repeat first | rw [nxn] | rw [nxp]);try omega) only [go_sem,u2_2,u2_3,u2_4,u2_15,eS,eB]
  refine callK_of (srangeC hS fr to n (qa14.fr f1427) (htA14.fr f1427) (by omega)) ?_
  rintro w28 g28 ⟨hp28,f28⟩
  have o28:=hp28.ln.2.2
  have f1428:=f1427.trans f28
  try simp (maxSteps:=1000000) -dsimp (disch:=(repeat first | rw [nxn] | rw [nxp]);try omega) only [go_sem,u2_2,u2_3,u2_4,u2_15,o28]
  refine callK_of (stableC hS (qa14.fr f1428) (htA14.fr f1428)) ?_
  rintro w g29 ⟨rfl,f29⟩
  have f1429:=f1428.trans f29
  try simp (maxSteps:=1000000) -dsimp (disch:=(repeat first | rw [nxn] | rw [nxp]);try omega) only [go_sem,u2_2,u2_3,u2_4,u2_15,oa,oma]
  refine callK_of (rangeG hS.to.toTb fr to n (htA14.fr f1429) (by omega)) ?_
  rintro w30 g30 ⟨hp30,f30⟩
  have o30:=hp30.ln.2.2
  try simp (maxSteps:=1000000) -dsimp (disch:=(repeat first | rw [nxn] | rw [nxp]);try omega) only [go_sem,u2_2,u2_3,u2_4,u2_15,o28,o30]
  refine callK_of (pairsS hS (hp28.fr (f29.trans f30)) hp30 (hrl n)) ?_
  rintro w g31 ⟨rfl,f31⟩
  try simp (maxSteps:=1000000) -dsimp (disch:=(repeat first | rw [nxn] | rw [nxp]);try omega) only [go_sem,u2_2,u2_3,u2_4,u2_15]
 ·have cz:¬(((recP (l++o)).2:Nat):Int)=0:=fun hh=>hok (recP_app.1 (by omega))
  by_cases kl:(recP l).2=0
  ·have cl:(((recP l).2:Nat):Int)=0:=by omega
   have co:¬(((recP o).2:Nat):Int)=0:=fun hh=>hok ⟨kl,by omega⟩
   simp (maxSteps:=1000000) -dsimp (disch:=(repeat first | rw [nxn] | rw [nxp]);try omega) only [go_sem,cl,co,cz]
  ·have cl:¬(((recP l).2:Nat):Int)=0:=by omega
   simp (maxSteps:=1000000) -dsimp (disch:=(repeat first | rw [nxn] | rw [nxp]);try omega) only [go_sem,cl,cz]
end
end Go.Proofs.YtaooopaemphfjaaGreatDoor.tbl
end

section
namespace Go.Proofs.YtaooopaemphfjaaGreatDoor.tbl
open Go Go.Abs Go.Abs.Rec Go.Proofs Go.ChangeShapes Go.RowKit
set_option maxRecDepth 100000
set_option linter.unusedVariables false
set_option linter.unusedSimpArgs false
theorem cStr:Tryz.prog.cellsOf 9=1:=by kernel_rfl
theorem cBool:Tryz.prog.cellsOf 4=1:=by kernel_rfl
theorem cPair:Tryz.prog.cellsOf 58=3:=by kernel_rfl
theorem byL_of (s:ByteArray):byL (bytesOf s):=by
 intro b hb
 unfold bytesOf at hb
 obtain ⟨x,_,rfl⟩:=List.mem_map.1 hb
 exact x.toNat_lt
theorem ty_pair {h:AH} {avs:List AV} (hx:Ty Tryz.prog h 58 avs):∃p:Pr,avs=pc p∧byL p.1∧byL p.2.1:=by
 obtain ⟨hl,hf⟩:=hx.struct_inv Tryz.underlying58
 have hl3:avs.length=3:=hl.trans cPair
 match avs,hl3 with
 | [a0,a1,a2],_ =>
  have f0:=hf _ (List.mem_cons_self ..)
  have f1:=hf _ (List.mem_cons_of_mem _ (List.mem_cons_self ..))
  have f2:=hf _ (List.mem_cons_of_mem _ (List.mem_cons_of_mem _ (List.mem_cons_self ..)))
  simp only [cStr,cBool,List.drop_zero,List.drop_succ_cons,List.take_succ_cons,List.take_zero] at f0 f1 f2
  obtain ⟨k,e0,_⟩:=f0.str_inv Tryz.underlying9
  obtain ⟨q,e1,_⟩:=f1.str_inv Tryz.underlying9
  obtain ⟨b,e2⟩:=f2.bool_inv Tryz.underlying4
  cases e0;cases e1;cases e2
  exact ⟨(bytesOf k,(bytesOf q,b)),rfl,byL_of k,byL_of q⟩
theorem flat_range {cs:List AV} (F:Nat→Pr):∀n:Nat,n*3≤cs.length→(∀i,i<n→(cs.drop (i*3)).take 3=pc (F i))→cs.take (n*3)=((List.range n).map F).flatMap pc
 | 0,_,_=>by simp
 | n+1,hn,h=>by
  have ih:=flat_range F n (by omega) fun i hi=>h i (by omega)
  have e:(n+1)*3=n*3+3:=by omega
  rw [e,List.take_add,ih,h n (Nat.lt_succ_self n),List.range_succ,List.map_append,List.flatMap_append]
  simp
theorem ty_pairs {h:AH} {avs:List AV} (hx:Ty Tryz.prog h 22 avs) (hlt:∀id o,h.get id=some o→id<h.nx):∃v L,avs=[v]∧Ps h v L∧∀p∈L,byL p.1∧byL p.2.1:=by
 rcases hx.slice_inv Tryz.underlying22 with rfl | ⟨id,len,cs,rfl,hg,hl,hcs,hel⟩
 ·exact ⟨_,[],rfl,.inl ⟨rfl,rfl⟩,fun p hp=>by cases hp⟩
 ·rw [cPair] at hcs hel ⊢
  have key:∀i,∃p:Pr,i<len→(cs.drop (i*3)).take 3=pc p∧byL p.1∧byL p.2.1:=fun i=>by
   by_cases hi:i<len
   ·obtain ⟨p,h1,h2⟩:=ty_pair (hel i hi)
    exact ⟨p,fun _=>⟨h1,h2⟩⟩
   ·exact ⟨([],([],false)),fun hh=>absurd hh hi⟩
  obtain ⟨F,hF⟩:=Classical.axiomOfChoice key
  have hm:((List.range len).map F).length=len:=by simp
  refine ⟨_,(List.range len).map F,rfl,.inr ⟨id,0,none,cs,false,false,by rw [hm],hg,hlt _ _ hg,fun k hk=>(by cases hk),by rw [hm];omega,?_⟩,fun p hp=>?_⟩
  ·rw [hm,List.drop_zero]
   exact flat_range F len (by omega) fun i hi=>(hF i hi).1
  ·obtain ⟨i,hi,rfl⟩:=List.mem_map.1 hp
   exact (hF i (List.mem_range.1 hi)).2
theorem ps_le {h h2:AH} {v:AV} {l:KL (List Nat×Bool)} (hb:Ps h v l) (hl:∀id o,h.get id=some o→h2.get id=some o) (hn:h.nx≤h2.nx):Ps h2 v l:=by
 rcases hb with h1 | ⟨id,off,c,cs,o,t,h1,h3,h4,h5⟩
 ·exact .inl h1
 ·exact .inr ⟨id,off,c,cs,o,t,h1,hl _ _ h3,Nat.lt_of_lt_of_le h4 hn,h5⟩
section
variable {H : Type} {enc : TypeId × Value → H} {P : Program} {w : World} {base : Nat} {spare : Nat → Bool} {held : Bool}
theorem trodAll_five {t0 t1 t2 t3 t4:TypeId} {args:Array Value} {ds:List (DataW H)} {ps:List MemPlace} (h:DataW.TrodAll enc P w base spare held [t0,t1,t2,t3,t4] args.toList ds ps) :
  ∃v0 v1 v2 v3 v4 d0 d1 d2 d3 d4 p0 p1 p2 p3 p4,args=#[v0,v1,v2,v3,v4]∧ds=[d0,d1,d2,d3,d4]∧ps=p0++(p1++(p2++(p3++p4)))∧DataW.Trod enc P w base spare held t0 v0 d0 p0∧DataW.Trod enc P w base spare held t1 v1 d1 p1∧DataW.Trod enc P w base spare held t2 v2 d2 p2∧DataW.Trod enc P w base spare held t3 v3 d3 p3∧DataW.Trod enc P w base spare held t4 v4 d4 p4:=by
 obtain ⟨v0,vs,d0,ds',p0,q,hargs,rfl,rfl,hd0,hr0⟩:=trodAll_cons h
 obtain ⟨v1,vs1,d1,ds1,p1,q1,rfl,rfl,rfl,hd1,hr1⟩:=trodAll_cons hr0
 obtain ⟨v2,vs2,d2,ds2,p2,q2,rfl,rfl,rfl,hd2,hr2⟩:=trodAll_cons hr1
 obtain ⟨v3,vs3,d3,ds3,p3,q3,rfl,rfl,rfl,hd3,hr3⟩:=trodAll_cons hr2
 obtain ⟨v4,vs4,d4,ds4,p4,q4,rfl,rfl,rfl,hd4,hr4⟩:=trodAll_cons hr3
 obtain ⟨rfl,rfl,rfl⟩:=trodAll_nil hr4
 exact ⟨v0,v1,v2,v3,v4,d0,d1,d2,d3,d4,p0,p1,p2,p3,p4,by cases args;simp_all,rfl,by simp,hd0,hd1,hd2,hd3,hd4⟩
theorem trodAll_mk5 {t0 t1 t2 t3 t4:TypeId} {v0 v1 v2 v3 v4:Value} {d0 d1 d2 d3 d4:DataW H} {p0 p1 p2 p3 p4:List MemPlace} (h0:DataW.Trod enc P w base spare held t0 v0 d0 p0) (h1:DataW.Trod enc P w base spare held t1 v1 d1 p1) (h2:DataW.Trod enc P w base spare held t2 v2 d2 p2) (h3:DataW.Trod enc P w base spare held t3 v3 d3 p3) (h4:DataW.Trod enc P w base spare held t4 v4 d4 p4) :
  DataW.TrodAll enc P w base spare held [t0,t1,t2,t3,t4] [v0,v1,v2,v3,v4] [d0,d1,d2,d3,d4] (p0++(p1++(p2++(p3++p4)))):=⟨p0,_,h0,⟨p1,_,h1,trodAll_mk3 h2 h3 h4,rfl⟩,rfl⟩
end
end Go.Proofs.YtaooopaemphfjaaGreatDoor.tbl
end
