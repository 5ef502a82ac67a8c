/- Texts joined: MIl. -/
import Derived.Test.YtihigekgnnoejaaGreatDoorH0
set_option maxRecDepth 100000
set_option linter.unusedVariables false
set_option linter.unusedSimpArgs false
set_option maxHeartbeats 64000000
section
namespace Go.Proofs.YtihigekgnnoejaaGreatDoor.mdl
open Go Go.Abs Go.Proofs
section
variable {S : Sums}
theorem apply4C (hS:Nf S) {K:Nat→Nat} {h:AH} {cs:List AV} {m:Mt} {B:Nat} (fo:List Nat) (dv:Int) (hm:Ma K h cs m) (top:∀j,h.nx≤j→K j=0) (hsz:szM m B) (hB:B<1000000):RnC Tryz.prog S 61 [.agg cs,.agg [.int .i64 4,.str fo,.int .i64 dv]] h fun r h'=>(∃m' cs' e,r=.tup [.agg cs',.int .i64 e]∧Ma K h' cs' m'∧szM m' (B+1))∧Fr h h':=by
 have hm0:=hm
 obtain ⟨w,rfl,hw⟩:=hm
 refine RnC.enter' Tryz.f61 _ 170 [.cell 4 43,.tmp 5] (hS.nx _ _ _ (by simp)) bd61 Tryz.func61 rfl rfl rfl ?_
 obtain ⟨lw,sw,ow⟩:=hw.ln
 have mw:=oneM ow
 have hl:=hw.2
 simp (maxSteps:=9^9) -dsimp (disch:=repeat first|rw [nxn]|rw [nxp]|omega) only [go_sem,ow,mw]
 generalize hg:(((h.new (.cells [.int .i64 m.own,w] true false)).new (.cells [.int .i64 4,.str fo,.int .i64 dv] true false)).new (.cells [.int .i64 0,.nilsl] true false))=g1
 have n1:g1.nx=h.nx+3:=by rw [←hg];rfl
 have f1:Fr h g1:=by rw [←hg];exact ((Fr.new _ _).news _).news _
 have q1:g1.get h.nx=some (.cells [.int .i64 m.own,w] true false):=by rw [←hg];exact (AH.get_new_ne (by first | (simp [AH.new];done) | (simp [AH.new];omega))).trans ((AH.get_new_ne (by simp [AH.new])).trans (AH.get_new_eq rfl))
 have q2:g1.get (h.nx+1)=some (.cells [.int .i64 4,.str fo,.int .i64 dv] true false):=by rw [←hg];exact (AH.get_new_ne (by simp [AH.new])).trans (AH.get_new_eq rfl)
 have q3:g1.get (h.nx+1+1)=some (.cells [.int .i64 0,.nilsl] true false):=by rw [←hg];exact AH.get_new_eq rfl
 clear hg
 have bad:∀(g:AH) (e:Int),Fr h g→((∃m' cs' e',(AV.tup [.agg [.int .i64 0,.nilsl],.int .i64 e])=.tup [.agg cs',.int .i64 e']∧Ma K g cs' m'∧szM m' (B+1))∧Fr h g):=fun g e f=>⟨⟨⟨0,[]⟩,_,_,rfl,ma0 K g,Nat.zero_le _,fun r hr=>by cases hr⟩,f⟩
 try simp (maxSteps:=9^9) -dsimp (disch:=repeat first|rw [nxn]|rw [nxp]|omega) only [go_sem,q1,ow,mw]
 refine callK_of (mcheckC hS (hm0.fr f1)) ?_
 rintro r g2 ⟨⟨n,rfl⟩,f2⟩
 have n2:=f2.nx
 have f12:=f1.trans f2
 have p1:=(f2.get _ (by omega)).trans q1
 have p2:=(f2.get _ (by omega)).trans q2
 have p3:=(f2.get _ (by omega)).trans q3
 by_cases hn:n=0
 case neg =>
  have nb:=fun g=>neIb g 89 n 0
  have hnb:(n != 0)=true:=by simp [hn]
  simp (maxSteps:=9^9) -dsimp (disch:=repeat first|rw [nxn]|rw [nxp]|omega) only [go_sem,nb,hnb,bldM0,p3]
  exact bad _ _ (f12.put _ (by omega))
 subst hn
 have hne0:∀g,binA Tryz.prog g .neq 89 (.int .i64 0) (.int .i64 0)=some (.bool false):=fun g=>neIb g _ 0 0
 have hmc:Ma (fun j=>if j=h.nx+1+1 then 9 else K j) h [.int .i64 m.own,w] m:=hm0.col fun j hj hk=>(if_neg (by omega)).trans hk
 have ktop:∀j,h.nx+3≤j→(fun j=>if j=h.nx+1+1 then 9 else K j) j=0:=fun j hj=>(if_neg (by omega)).trans (top j (by omega))
 have kbx:(fun j=>if j=h.nx+1+1 then 9 else K j) (h.nx+1+1)=9:=if_pos rfl
 generalize (fun j=>if j=h.nx+1+1 then 9 else K j)=K0 at hmc ktop kbx
 have hm2:=(hmc.fr f1).fr f2
 simp (maxSteps:=9^9) -dsimp (disch:=repeat first|rw [nxn]|rw [nxp]|omega) only [go_sem,hne0,p2]
 refine callK_of (folderC hS fo) ?_
 rintro r g3 ⟨⟨b,rfl⟩,f3⟩
 have n3:=f3.nx
 have f13:=f12.trans f3
 have r1:=(f3.get _ (by omega)).trans p1
 have r2:=(f3.get _ (by omega)).trans p2
 have r3:=(f3.get _ (by omega)).trans p3
 cases b
 ·simp (maxSteps:=9^9) -dsimp (disch:=repeat first|rw [nxn]|rw [nxp]|omega) only [go_sem,bldM0,r3]
  exact bad _ _ (f13.put _ (by omega))
 simp (maxSteps:=9^9) -dsimp (disch:=repeat first|rw [nxn]|rw [nxp]|omega) only [go_sem,r2]
 refine callK_of (deviceC hS.toMx dv) ?_
 rintro r g3 ⟨rfl,rfl⟩
 cases hd:(decide (1≤dv)&&decide (dv≤16))
 ·simp (maxSteps:=9^9) -dsimp (disch:=repeat first|rw [nxn]|rw [nxp]|omega) only [go_sem,hd,r2,bldM0,r3]
  exact bad _ _ (f13.put _ (by omega))
 by_cases hdo:dv=m.own
 ·simp (maxSteps:=9^9) -dsimp (disch:=repeat first|rw [nxn]|rw [nxp]|omega) only [go_sem,hd,r2,r1,hdo,bldM0,r3]
  exact bad _ _ (f13.put _ (by omega))
 simp (maxSteps:=9^9) -dsimp (disch:=repeat first|rw [nxn]|rw [nxp]|omega) only [go_sem,hd,r2,r1,hdo,ow,mw]
 generalize hT1:Go.Abs.Tr.set _ _ _=T1
 have T1_2:T1.get 2=some (.ptr h.nx 0):=by rw [←hT1];simp only [go_sem]
 have T1_3:T1.get 3=some (.ptr (h.nx+1) 0):=by rw [←hT1];simp only [go_sem]
 have T1_4:T1.get 4=some (.ptr (h.nx+1+1) 0):=by rw [←hT1];simp only [go_sem]
 clear hT1
 refine callK_of (mcopyC hS.toNb (hm2.fr f3) fun j hj=>ktop j (by omega)) ?_
 rintro r g4 ⟨⟨rv,K',rfl,kl,ko,hz⟩,f4⟩
 have n4:=f4.nx
 have f14:=f13.trans f4
 have s1:=(f4.get _ (by omega)).trans r1
 have s2:=(f4.get _ (by omega)).trans r2
 have s3:=(f4.get _ (by omega)).trans r3
 obtain ⟨orv,srv⟩:=hz.one
 have mrv:=oneM orv
 have crv:=cells1 orv
 have hz1:=hz.col eyW (K':=fun j=>if j=g4.nx then 9 else K' j) fun j hj _=>if_neg (by omega)
 have ko1:∀j,g4.nx+1≤j→(fun j=>if j=g4.nx then 9 else K' j) j=0:=fun j hj=>(if_neg (by omega)).trans (ko j (by omega))
 have ke1:(fun j=>if j=g4.nx then 9 else K' j) g4.nx=9:=if_pos rfl
 have kx1:(fun j=>if j=g4.nx then 9 else K' j) (h.nx+1+1)=9:=(if_neg (by omega)).trans ((kl _ (by omega)).trans kbx)
 generalize (fun j=>if j=g4.nx then 9 else K' j)=K1 at hz1 ko1 ke1 kx1
 have lrv:=Sl.len (P:=Tryz.prog) (e:=84) (hz.sls eyW (K2:=fun _=>0) (E2:=fun _ _=>True) (fun _ _ _ _ _=>rfl) fun _ _ _=>trivial) Tryz.underlying41
 have ff:Fr g4 ((g4.new (.cells [.int .i64 0,.nilsl] true false)).put g4.nx (.cells [.int .i64 m.own,rv] true false)):=(Fr.new _ _).put _ (Nat.le_refl _)
 have w4:((g4.new (.cells [.int .i64 0,.nilsl] true false)).put g4.nx (.cells [.int .i64 m.own,rv] true false)).get g4.nx=some (.cells [.int .i64 m.own,rv] true false):=AH.get_put_eq rfl
 have n5:((g4.new (.cells [.int .i64 0,.nilsl] true false)).put g4.nx (.cells [.int .i64 m.own,rv] true false)).nx=g4.nx+1:=rfl
 simp (maxSteps:=9^9) -dsimp (disch:=repeat first|rw [nxn]|rw [nxp]|omega) only [go_sem,T1_2,T1_3,T1_4,r2,s1,s2,ow,mw,orv,mrv,crv]
 generalize (g4.new (.cells [.int .i64 0,.nilsl] true false)).put g4.nx (.cells [.int .i64 m.own,rv] true false)=g5 at ff w4 n5 ⊢
 refine callK_of (findRC hS.toMz fo (((hm2.fr f3).fr f4).fr ff)) ?_
 rintro r g6 ⟨rfl,f6⟩
 have n6:=f6.nx
 have f46:=ff.trans f6
 have f16:=f14.trans f46
 have u1:=(f46.get _ (by omega)).trans s1
 have u2:=(f46.get _ (by omega)).trans s2
 have u3:=(f46.get _ (by omega)).trans s3
 have u4:=(f6.get _ (by omega)).trans w4
 have hz6:=hz1.fr eyW f46
 have hile:=findR_le m.rows fo
 have hilt:(findR m.rows fo).2=true→(findR m.rows fo).1<m.rows.length:=fun hh=>by
  simp only [findR,Bool.and_eq_true,decide_eq_true_eq] at hh
  exact hh.1
 cases his:(findR m.rows fo).2
 case false =>
  simp (maxSteps:=9^9) -dsimp (disch:=repeat first|rw [nxn]|rw [nxp]|omega) only [go_sem,T1_2,T1_3,T1_4,u2,his,bldM0,u3]
  exact bad _ _ (f16.put _ (by omega))
 have hlt:=hilt his
 simp (maxSteps:=9^9) -dsimp (disch:=repeat first|rw [nxn]|rw [nxp]|omega) only [go_sem,T1_2,T1_3,T1_4,u2,his]
 generalize (findR m.rows fo).1=i at *
 obtain ⟨x,hx⟩:∃x,m.rows[i]? = some x:=⟨_,List.getElem?_eq_getElem hlt⟩
 obtain ⟨id,c,css,ce,A,Bb,rfl,z2,z3,z4,z5,z6,zW,a3,a4,a6,hc,hid0,hid1,hid2⟩:=hz6.at eyW hx
 have zW0:=zW
 obtain ⟨wv,rfl,hwz,hw5,hwl⟩:=zW
 have owv:=(Ez.one hwz).2
 have swv:=(Ez.one hwz).1
 have mwv:=oneM owv
 have ht3:css.flatten[i*2+1]? = some wv:=by
  rw [z4,←z5,List.append_assoc,List.getElem?_append_right (by omega),Nat.add_sub_cancel_left]
  rfl
 have hiv:Iv (fun _=>0) g6 wv x.own:=iv_of hwz hwl fun _ _=>rfl
 refine syDraw.keepN 9 (fun j=>j=g4.nx∨j=id∨j=h.nx+1) (by kernel_rfl) (by kernel_rfl) rfl ?_
 have fx:Fr g6 { tr:=g6.tr,nx:=g6.nx+14 }:=(Fr.refl g6).more _ (by omega)
 simp (maxSteps:=9^9) -dsimp (disch:=repeat first|rw [nxn]|rw [nxp]|omega) only [go_sem,T1_2,T1_3,T1_4,u2,u4,hlt,z2,z6,ht3,owv,mwv,orv,mrv,srv,swv,true_and,true_or,or_true,implies_true,svi,svb,svs,svp]
 refine callK_of (bsIC hS.toNa dv (hiv.fr fx)) ?_
 rintro r g7 ⟨rfl,f7⟩
 refine ⟨fun j hj=>f7.get j (by show j<g6.nx+14;rcases hj with rfl | rfl | rfl <;> omega),?_⟩
 have n7:g6.nx+14≤g7.nx:=f7.nx
 have f67:=fx.trans f7
 have f17:=f16.trans f67
 have v1:=(f67.get _ (by omega)).trans u1
 have v2:=(f67.get _ (by omega)).trans u2
 have v3:=(f67.get _ (by omega)).trans u3
 have v4:=(f67.get _ (by omega)).trans u4
 have hkl:=findI_le x.own dv
 have hkt:(findI x.own dv).2=true→(findI x.own dv).1<x.own.length:=fun hh=>by
  simp only [findI,Bool.and_eq_true,decide_eq_true_eq] at hh
  exact hh.1
 cases hhs:(findI x.own dv).2
 case false =>
  simp (maxSteps:=9^9) -dsimp (disch:=repeat first|rw [nxn]|rw [nxp]|omega) only [go_sem,T1_2,T1_3,T1_4,v2,v3,hhs,bldM0,true_and,true_or,or_true,implies_true,svi,svb,svs,svp]
  exact bad _ _ (f17.put _ (by omega))
 simp (maxSteps:=9^9) -dsimp (disch:=repeat first|rw [nxn]|rw [nxp]|omega) only [go_sem,T1_2,T1_3,T1_4,v2,v3,hhs,bldM0,true_and,true_or,or_true,implies_true,svi,svb,svs,svp]
 have hkl2:=hkt hhs
 generalize (findI x.own dv).1=k at *
 have fI:Fr g7 ({ tr:=g7.tr,nx:=g7.nx+16 }:AH):=(Fr.refl g7).more _ (by omega)
 have y2:=(f67.get _ (by omega)).trans z2
 have hbx:=x.own.length
 refine syDraw.keepN 15 (fun j=>j=g4.nx∨j=id∨j=h.nx+1) (by kernel_rfl) (by kernel_rfl) rfl ?_
 simp (maxSteps:=9^9) -dsimp (disch:=repeat first|rw [nxn]|rw [nxp]|omega) only [go_sem,T1_2,T1_3,T1_4,v2,v4,hlt,y2,z6,ht3,owv,mwv,orv,mrv,srv,swv,true_and,true_or,or_true,implies_true,svi,svb,svs,svp]
 refine callK_of (delInC hS.toNi ((hwz.fr f67).fr fI) (show (inC x.own).length=x.own.length*1 by rw [inC_len,Nat.mul_one]) hkl2 hwl (in_all _) (by show g3.nx≤g7.nx+16;omega)) ?_
 rintro r g8 ⟨id2,rfl,b2,b3,b4,b5⟩
 rw [inC_del] at b2
 have b3':g7.nx+16≤id2:=b3
 have b4':g7.nx+16≤g8.nx:=b4
 have hin:∀j,j<g7.nx→blk wv≠some j→g8.get j=g7.get j:=fun j hj hh=>(b5 j (by show j<g7.nx+16;omega) fun id' o n c hv he=>hh (by rw [hv,he];rfl))
 have hnb:∀j,K1 j=9∨K1 j=1∨j<g3.nx→blk wv≠some j:=fun j hj hh=>by
  have e1:=hw5 j hh
  have e2:=(hwz.blkLt hh).1
  omega
 refine ⟨fun j hj=>(b5 j (by show j<g7.nx+16;rcases hj with rfl | rfl | rfl <;> omega) fun id' o n c hv he=>hnb j (by rcases hj with rfl | rfl | rfl;exact .inl ke1;exact .inr (.inl hid2);exact .inr (.inr (by omega))) (by rw [hv,he];rfl)),?_⟩
 have w2:=(hin id (by omega) (hnb _ (.inr (.inl hid2)))).trans y2
 have w3:=(hin (h.nx+1+1) (by omega) (hnb _ (.inl kx1))).trans v3
 have w4':=(hin g4.nx (by omega) (hnb _ (.inl ke1))).trans v4
 have hK2:∀j,j<g7.nx→(fun j=>if j=id2 then 5 else K1 j) j=K1 j:=fun j hj=>if_neg (by omega)
 have hK3:(fun j=>if j=id2 then 5 else K1 j) id2=5:=if_pos rfl
 generalize (fun j=>if j=id2 then 5 else K1 j)=K2 at hK2 hK3
 have hxo:x.own.length≤B:=hsz.2 x (List.mem_of_getElem? hx)
 have hz8:=Oy.chg eyW (E:=Wy) (h:=g7) (h':=g8) (K:=K1) (K':=K2) (k:=1) (vs:=[.sl id2 0 (x.own.length-1) 1 none]) (x':=⟨x.folder,x.own.take k++x.own.drop (k+1)⟩) (hz6.fr eyW f67) rfl y2 a3 (fun i cs x h1 h2=>eyW.gk (a4 i cs x h1 h2) (f67.gk _) fun a ha=>f67.get a (eyW.own (a4 i cs x h1 h2) ha).2.2) a6 hx z3 (Nat.le_refl _) (by omega) (fun j hj _ hh=>hin j hj hh) hK2 (.inr fun a ha=>by cases ha;omega) ⟨_,rfl,b2.keepB (Nat.le_refl _) fun a ha=>AH.get_put_ne (by cases ha;omega),(fun a ha=>by cases ha;exact hK3),by simp;omega⟩
 have hne4:¬g4.nx=id:=fun hh=>by rw [←hh,ke1] at hid2;omega
 have hne3:¬h.nx+1+1=id:=by omega
 simp (maxSteps:=9^9) -dsimp (disch:=repeat first|rw [nxn]|rw [nxp]|omega) only [go_sem,T1_2,T1_3,T1_4,hlt,w2,z6,w3,w4',hne4,hne3,true_and,true_or,or_true,implies_true,svi,svb,svs,svp]
 have hz9:=hz8.kc eyW (h':=(g8.put id (.cells (putCells css.flatten (i*2+1) [.sl id2 0 (x.own.length-1) 1 none]) true false)).put (h.nx+1+1) (.cells [.int .i64 m.own,.sl id 0 m.rows.length 2 c] true false)) ⟨Nat.le_refl _,fun j hj hk=>AH.get_put_ne (fun hh=>by subst hh;rw [hK2 _ (by omega),kx1] at hk;omega)⟩
 refine ⟨⟨⟨m.own,m.rows.set i ⟨x.folder,x.own.take k++x.own.drop (k+1)⟩⟩,_,_,rfl,oy_ma hz9 (fun j hj=>top j (by omega)) (by rw [List.length_set];exact hl),by rw [List.length_set];exact Nat.le_succ_of_le hsz.1,fun r hr=>?_⟩,(⟨by omega,fun j hj=>(hin j (by omega) (hnb _ (.inr (.inr (by omega))))).trans (f17.get _ hj)⟩:Fr h g8).put _ (by omega) |>.put _ (by omega)⟩
 rcases List.mem_or_eq_of_mem_set hr with hr | rfl
 ·exact Nat.le_succ_of_le (hsz.2 r hr)
 ·simp;omega
end
end Go.Proofs.YtihigekgnnoejaaGreatDoor.mdl
end