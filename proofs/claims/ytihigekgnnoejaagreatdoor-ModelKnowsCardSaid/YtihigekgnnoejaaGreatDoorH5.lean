/- Texts joined: MIw. -/
import Derived.Test.YtihigekgnnoejaaGreatDoorH4
set_option maxRecDepth 100000
set_option linter.unusedVariables false
set_option linter.unusedSimpArgs false
set_option maxHeartbeats 64000000
section
namespace Go.Proofs.YtihigekgnnoejaaGreatDoor.mdl
open Go Go.Abs Go.Proofs
section
variable {S : Sums}
theorem copiedC (hS:Nf S) {n0:Nat} {K:Nat→Nat} {h:AH} {p:Nat} {l:List Hd} {s:List Mt} {cs:List AV} {x:Se} (hz:Zs n0 K h p l s) (hx:Sa K h cs x):RnC Tryz.prog S 75 [.ptr p 0,.agg cs,.agg [.int .i64 x.dev,.str x.dfolder,.str x.rc.path]] h fun v h'=>(∃b,v=.bool b∧(b=true→x.cp.path≠[]→x.cp.path=x.copy∧x.copy≠x.rc.path))∧Fr h h':=by
 have hx0:=hx
 obtain ⟨v1,d1,v2,d2,rw',rv,rfl,h1,h2,h3,h4,h5,h6,h7,h8⟩:=hx
 have o1:=h1.ln.2.2.2
 have o2:=h2.ln.2.2
 have o4:=h4.ln.2.2.2
 have o5:=h5.ln.2.2
 have o7:=h7.ln.2.2
 have o8:=h8.ln.2.2
 have p1:=oneM o1
 have p2:=oneM o2
 have p4:=oneM o4
 have p5:=oneM o5
 have p7:=oneM o7
 have p8:=oneM o8
 have hrc:=Sa.rc (x:=x) h1 h2 h3
 have hrs:=hrc.sv
 have hxs:=hx0.sv
 have hcp:Ra K h [.str x.cp.path,v2,.int .i64 x.cp.own,.bool x.cp.gone,.int .i64 x.cp.size,.int .i64 x.cp.len,d2] x.cp:=⟨v2,d2,rfl,h4,h5,h6⟩
 have hcs:=hcp.sv
 refine RnC.enter' Tryz.f75 _ 100 [.tmp 6] (hS.nb _ _ _ (by simp)) bd75 Tryz.func75 rfl rfl rfl ?_
 simp (maxSteps:=9^9) -dsimp (disch:=repeat first|rw [nxn]|rw [nxp]|omega) only [go_sem,o1,o2,o4,o5,o7,o8,p1,p2,p4,p5,p7,p8]
 generalize hC:([.int .i64 x.kind,.int .i64 x.dev,.int .i64 x.peer,.int .i64 x.num,.str x.folder,.str x.path,.int .i64 x.dkind,.str x.dfolder,.str x.dpath,.str x.rc.path,v1,.int .i64 x.rc.own,.bool x.rc.gone,.int .i64 x.rc.size,.int .i64 x.rc.len,d1,.str x.copy,.str x.cp.path,v2,.int .i64 x.cp.own,.bool x.cp.gone,.int .i64 x.cp.size,.int .i64 x.cp.len,d2,.int .i64 x.ckind,.str x.cfolder,.int .i64 x.cdev,.int .i64 x.mt.own,rw',rv]:List AV)=C at *
 have cl:C.length=30:=by rw [←hC];rfl
 have c1:C[1]? = some (.int .i64 x.dev):=by rw [←hC];rfl
 have c7:C[7]? = some (.str x.dfolder):=by rw [←hC];rfl
 have c16:C[16]? = some (.str x.copy):=by rw [←hC];rfl
 have cl2:2≤C.length:=by omega
 have cl8:8≤C.length:=by omega
 have cl17:17≤C.length:=by omega
 have cl24:24≤C.length:=by omega
 have cl16:16≤C.length:=by omega
 have c17:(C.drop 17).take 7=[.str x.cp.path,v2,.int .i64 x.cp.own,.bool x.cp.gone,.int .i64 x.cp.size,.int .i64 x.cp.len,d2]:=by rw [←hC];rfl
 have c9:(C.drop 9).take 7=[.str x.rc.path,v1,.int .i64 x.rc.own,.bool x.rc.gone,.int .i64 x.rc.size,.int .i64 x.rc.len,d1]:=by rw [←hC];rfl
 generalize hg1:((h.new (.cells C true false)).new (.cells [.int .i64 x.dev,.str x.dfolder,.str x.rc.path] true false))=g1
 have n1:g1.nx=h.nx+2:=by rw [←hg1];rfl
 have f1:Fr h g1:=by rw [←hg1];exact (Fr.new _ _).news _
 have q1:g1.get h.nx=some (.cells C true false):=by rw [←hg1];exact (AH.get_new_ne (by simp [AH.new])).trans (AH.get_new_eq rfl)
 have w1:g1.get (h.nx+1)=some (.cells [.int .i64 x.dev,.str x.dfolder,.str x.rc.path] true false):=by rw [←hg1];exact AH.get_new_eq rfl
 clear hg1
 refine syDraw.keepN 16 (fun j=>j=h.nx) (by kernel_rfl) (by kernel_rfl) rfl ?_
 have fA:Fr g1 { tr:=g1.tr,nx:=g1.nx+16 }:=(Fr.refl g1).more _ (by omega)
 have en:=fun g a=>neSb g a []
 have eq0:=fun g a=>eqSb g a []
 simp (maxSteps:=9^9) -dsimp (disch:=repeat first|rw [nxn]|rw [nxp]|omega) only [go_sem,q1,c1,c7,c16,cl2,cl8,cl17,cl24,c17,o4,o5,p4,p5,bldK,true_and,true_or,or_true,implies_true,svi,svb,svs,svp,hcs]
 refine ⟨fun j hj=>(AH.get_put_ne (by omega)).trans ((AH.get_put_ne (by omega)).trans (AH.get_put_ne (by omega))),fun j hj=>AH.get_put_ne (by omega),?_⟩
 generalize hg3:(((({ tr:=g1.tr,nx:=g1.nx+16 }:AH).put (g1.nx+12) (.cells [.int .i64 0,.str [],.str []] true false)).put (g1.nx+13) (.cells [.str [],.nilsl,.int .i64 0,.bool false,.int .i64 0,.int .i64 0,.nilsl] true false)).put (g1.nx+12) (.cells [.int .i64 x.dev,.str x.dfolder,.str x.copy] true false)).put (g1.nx+13) (.cells [.str x.cp.path,v2,.int .i64 x.cp.own,.bool x.cp.gone,.int .i64 x.cp.size,.int .i64 x.cp.len,d2] true false)=g3
 have n3:g3.nx=g1.nx+16:=by rw [←hg3];rfl
 have f13:Fr g1 g3:=by rw [←hg3];exact (((fA.put _ (by omega)).put _ (by omega)).put _ (by omega)).put _ (by omega)
 have q7:g3.get (g1.nx+12)=some (.cells [.int .i64 x.dev,.str x.dfolder,.str x.copy] true false):=by rw [←hg3];exact (AH.get_put_ne (by omega)).trans (AH.get_put_eq rfl)
 have q8:g3.get (g1.nx+13)=some (.cells [.str x.cp.path,v2,.int .i64 x.cp.own,.bool x.cp.gone,.int .i64 x.cp.size,.int .i64 x.cp.len,d2] true false):=by rw [←hg3];exact AH.get_put_eq rfl
 clear hg3
 have q3:=(f13.get _ (by omega)).trans q1
 have w3:=(f13.get _ (by omega)).trans w1
 have fh3:=f1.trans f13
 have hz3:=hz.fr fh3
 have hrc3:Ra (fun _=>0) g3 [.str x.rc.path,v1,.int .i64 x.rc.own,.bool x.rc.gone,.int .i64 x.rc.size,.int .i64 x.rc.len,d1] x.rc:=(hrc.fr fh3).col fun _ _ _=>rfl
 have hcp3:Ra (fun _=>0) g3 [.str x.cp.path,v2,.int .i64 x.cp.own,.bool x.cp.gone,.int .i64 x.cp.size,.int .i64 x.cp.len,d2] x.cp:=(hcp.fr fh3).col fun _ _ _=>rfl
 have hd23:Dv (fun _=>0) g3 d2 x.cp.digs:=(h5.fr fh3).col fun _ _ _=>rfl
 by_cases hp:x.cp.path=[]
 ·have dp:decide (x.cp.path=[])=true:=decide_eq_true hp
  have ok:∀(b:Bool) g,Fr h g→(∃b',(AV.bool b)=.bool b'∧(b'=true→x.cp.path≠[]→x.cp.path=x.copy∧x.copy≠x.rc.path))∧Fr h g:=fun b g f=>⟨⟨b,rfl,fun _ hh=>(hh hp).elim⟩,f⟩
  by_cases hc:x.copy=[]
  ·have dc:decide (x.copy=[])=true:=decide_eq_true hc
   simp (maxSteps:=9^9) -dsimp (disch:=repeat first|rw [nxn]|rw [nxp]|omega) only [go_sem,bE,en,dc,dp,q7,q8,q3,w3,c9,cl16,o1,o2,p1,p2,p4,p5,o4,o5]
   refine callK_of (someC hS.toMo (x.dev,(x.dfolder,x.rc.path)) hz3.vs.vw hrc3) ?_
   rintro v g4 ⟨⟨b1,rfl,_⟩,f4⟩
   cases b1
   ·simp (maxSteps:=9^9) -dsimp (disch:=repeat first|rw [nxn]|rw [nxp]|omega) only [go_sem]
    exact ok _ _ (fh3.trans f4)
   ·simp (maxSteps:=9^9) -dsimp (disch:=repeat first|rw [nxn]|rw [nxp]|omega) only [go_sem]
    exact ok _ _ (fh3.trans f4)
  ·have dc:decide (x.copy=[])=false:=decide_eq_false hc
   simp (maxSteps:=9^9) -dsimp (disch:=repeat first|rw [nxn]|rw [nxp]|omega) only [go_sem,bE,en,dc,q7,q8,q3,w3,c9,cl16,o1,o2,p1,p2,p4,p5,o4,o5]
   refine callK_of (someC hS.toMo (x.dev,(x.dfolder,x.rc.path)) hz3.vs.vw hrc3) ?_
   rintro v g4 ⟨⟨b1,rfl,_⟩,f4⟩
   have n4:=f4.nx
   cases b1
   ·simp (maxSteps:=9^9) -dsimp (disch:=repeat first|rw [nxn]|rw [nxp]|omega) only [go_sem]
    exact ok _ _ (fh3.trans f4)
   have w4:=(f4.get _ (by omega)).trans w3
   have q74:=(f4.get _ (by omega)).trans q7
   have q84:=(f4.get _ (by omega)).trans q8
   simp (maxSteps:=9^9) -dsimp (disch:=repeat first|rw [nxn]|rw [nxp]|omega) only [go_sem,w4]
   refine callK_of (nowC hS.toMk (x.dev,(x.dfolder,x.rc.path)) (hz3.fr f4).vs.vw (fun _ _=>rfl)) ?_
   rintro v g5 ⟨⟨cn,rfl,hcnA⟩,f5⟩
   have nnA:=f5.nx
   obtain ⟨nvA,ndA,rfl,hnvA,hndA,_⟩:=hcnA
   have onvA:=hnvA.ln.2.2.2
   have ondA:=hndA.ln.2.2
   have pnvA:=oneM onvA
   have pndA:=oneM ondA
   generalize (nowF l (x.dev,(x.dfolder,x.rc.path)))=nwA at *
   have fNA:Fr g5 ((g5.new (.cells [.str [],.nilsl,.int .i64 0,.bool false,.int .i64 0,.int .i64 0,.nilsl] true false)).put g5.nx (.cells [.str nwA.1.path,nvA,.int .i64 nwA.1.own,.bool nwA.1.gone,.int .i64 nwA.1.size,.int .i64 nwA.1.len,ndA] true false)):=(Fr.new _ _).put _ (Nat.le_refl _)
   have wNA:((g5.new (.cells [.str [],.nilsl,.int .i64 0,.bool false,.int .i64 0,.int .i64 0,.nilsl] true false)).put g5.nx (.cells [.str nwA.1.path,nvA,.int .i64 nwA.1.own,.bool nwA.1.gone,.int .i64 nwA.1.size,.int .i64 nwA.1.len,ndA] true false)).get g5.nx=some (.cells [.str nwA.1.path,nvA,.int .i64 nwA.1.own,.bool nwA.1.gone,.int .i64 nwA.1.size,.int .i64 nwA.1.len,ndA] true false):=AH.get_put_eq rfl
   have mNA:((g5.new (.cells [.str [],.nilsl,.int .i64 0,.bool false,.int .i64 0,.int .i64 0,.nilsl] true false)).put g5.nx (.cells [.str nwA.1.path,nvA,.int .i64 nwA.1.own,.bool nwA.1.gone,.int .i64 nwA.1.size,.int .i64 nwA.1.len,ndA] true false)).nx=g5.nx+1:=rfl
   have q75:=(fNA.get _ (by omega)).trans ((f5.get _ (by omega)).trans q74)
   have q85:=(fNA.get _ (by omega)).trans ((f5.get _ (by omega)).trans q84)
   simp (maxSteps:=9^9) -dsimp (disch:=repeat first|rw [nxn]|rw [nxp]|omega) only [go_sem,onvA,ondA,pnvA,pndA,(f5.get _ (show g1.nx+13<g4.nx by omega)).trans q84,(f5.get _ (show g1.nx+12<g4.nx by omega)).trans q74,bE,eq0,dp]
   generalize ((g5.new (.cells [.str [],.nilsl,.int .i64 0,.bool false,.int .i64 0,.int .i64 0,.nilsl] true false)).put g5.nx (.cells [.str nwA.1.path,nvA,.int .i64 nwA.1.own,.bool nwA.1.gone,.int .i64 nwA.1.size,.int .i64 nwA.1.len,ndA] true false))=g6 at fNA wNA mNA ⊢
   have hz6:=((hz3.fr f4).fr f5).fr fNA
   refine callK_of (nowC hS.toMk (x.dev,(x.dfolder,x.copy)) (hz6).vs.vw (fun _ _=>rfl)) ?_
   rintro v g7 ⟨⟨cn,rfl,hcnB⟩,f7⟩
   have nnB:=f7.nx
   obtain ⟨nvB,ndB,rfl,hnvB,hndB,_⟩:=hcnB
   have onvB:=hnvB.ln.2.2.2
   have ondB:=hndB.ln.2.2
   have pnvB:=oneM onvB
   have pndB:=oneM ondB
   generalize (nowF l (x.dev,(x.dfolder,x.copy)))=nwB at *
   have fNB:Fr g7 ((g7.new (.cells [.str [],.nilsl,.int .i64 0,.bool false,.int .i64 0,.int .i64 0,.nilsl] true false)).put g7.nx (.cells [.str nwB.1.path,nvB,.int .i64 nwB.1.own,.bool nwB.1.gone,.int .i64 nwB.1.size,.int .i64 nwB.1.len,ndB] true false)):=(Fr.new _ _).put _ (Nat.le_refl _)
   have wNB:((g7.new (.cells [.str [],.nilsl,.int .i64 0,.bool false,.int .i64 0,.int .i64 0,.nilsl] true false)).put g7.nx (.cells [.str nwB.1.path,nvB,.int .i64 nwB.1.own,.bool nwB.1.gone,.int .i64 nwB.1.size,.int .i64 nwB.1.len,ndB] true false)).get g7.nx=some (.cells [.str nwB.1.path,nvB,.int .i64 nwB.1.own,.bool nwB.1.gone,.int .i64 nwB.1.size,.int .i64 nwB.1.len,ndB] true false):=AH.get_put_eq rfl
   have mNB:((g7.new (.cells [.str [],.nilsl,.int .i64 0,.bool false,.int .i64 0,.int .i64 0,.nilsl] true false)).put g7.nx (.cells [.str nwB.1.path,nvB,.int .i64 nwB.1.own,.bool nwB.1.gone,.int .i64 nwB.1.size,.int .i64 nwB.1.len,ndB] true false)).nx=g7.nx+1:=rfl
   have wA:=(f7.get _ (show g5.nx<g6.nx by omega)).trans wNA
   have hf:=((((fh3.trans f4).trans f5).trans fNA).trans f7)
   cases hB2:nwB.2
   ·simp (maxSteps:=9^9) -dsimp (disch:=repeat first|rw [nxn]|rw [nxp]|omega) only [go_sem,hB2,onvB,ondB,pnvB,pndB]
    exact ok _ _ (hf.trans fNB)
   cases hBg:nwB.1.gone
   case true =>
    simp (maxSteps:=9^9) -dsimp (disch:=repeat first|rw [nxn]|rw [nxp]|omega) only [go_sem,hB2,hBg,onvB,ondB,pnvB,pndB]
    rw [hBg] at fNB
    exact ok _ _ (hf.trans fNB)
   rw [hBg] at fNB wNB mNB
   simp (maxSteps:=9^9) -dsimp (disch:=repeat first|rw [nxn]|rw [nxp]|omega) only [go_sem,hB2,hBg,onvB,ondB,pnvB,pndB,wA,onvA,ondA,pnvA,pndA]
   have hdB:Dv (fun _=>0) ((g7.new (.cells [.str [],.nilsl,.int .i64 0,.bool false,.int .i64 0,.int .i64 0,.nilsl] true false)).put g7.nx (.cells [.str nwB.1.path,nvB,.int .i64 nwB.1.own,.bool false,.int .i64 nwB.1.size,.int .i64 nwB.1.len,ndB] true false)) ndB nwB.1.digs:=hndB.gk (fNB.gk _)
   have hdA:Dv (fun _=>0) ((g7.new (.cells [.str [],.nilsl,.int .i64 0,.bool false,.int .i64 0,.int .i64 0,.nilsl] true false)).put g7.nx (.cells [.str nwB.1.path,nvB,.int .i64 nwB.1.own,.bool false,.int .i64 nwB.1.size,.int .i64 nwB.1.len,ndB] true false)) ndA nwA.1.digs:=((hndA.gk (fNA.gk _)).gk (f7.gk _)).gk (fNB.gk _)
   refine callK_of (blockSameC hS.toMr (a:=nwB.1) (b:=nwA.1) hdB hdA) ?_
   rintro v g8 ⟨rfl,f8⟩
   try simp (maxSteps:=9^9) -dsimp (disch:=repeat first|rw [nxn]|rw [nxp]|omega) only [go_sem]
   exact ok _ _ ((hf.trans fNB).trans f8)
 ·have dp:decide (x.cp.path=[])=false:=decide_eq_false hp
  have bad:∀g,Fr h g→(∃b',(AV.bool false)=.bool b'∧(b'=true→x.cp.path≠[]→x.cp.path=x.copy∧x.copy≠x.rc.path))∧Fr h g:=fun g f=>⟨⟨false,rfl,fun hh=>by cases hh⟩,f⟩
  by_cases hc:x.copy=[]
  ·have dc:decide (x.copy=[])=true:=decide_eq_true hc
   simp (maxSteps:=9^9) -dsimp (disch:=repeat first|rw [nxn]|rw [nxp]|omega) only [go_sem,bE,en,dc,dp,q7,q8,q3,w3,c9,cl16,o1,o2,p1,p2,p4,p5,o4,o5]
   refine callK_of (someC hS.toMo (x.dev,(x.dfolder,x.rc.path)) hz3.vs.vw hrc3) ?_
   rintro v g4 ⟨⟨b1,rfl,_⟩,f4⟩
   have n4:=f4.nx
   cases b1
   ·simp (maxSteps:=9^9) -dsimp (disch:=repeat first|rw [nxn]|rw [nxp]|omega) only [go_sem]
    exact bad _ (fh3.trans f4)
   have w4:=(f4.get _ (by omega)).trans w3
   have q74:=(f4.get _ (by omega)).trans q7
   have q84:=(f4.get _ (by omega)).trans q8
   simp (maxSteps:=9^9) -dsimp (disch:=repeat first|rw [nxn]|rw [nxp]|omega) only [go_sem,w4]
   refine callK_of (nowC hS.toMk (x.dev,(x.dfolder,x.rc.path)) (hz3.fr f4).vs.vw (fun _ _=>rfl)) ?_
   rintro v g5 ⟨⟨cn,rfl,hcnA⟩,f5⟩
   have nnA:=f5.nx
   obtain ⟨nvA,ndA,rfl,hnvA,hndA,_⟩:=hcnA
   have onvA:=hnvA.ln.2.2.2
   have ondA:=hndA.ln.2.2
   have pnvA:=oneM onvA
   have pndA:=oneM ondA
   generalize (nowF l (x.dev,(x.dfolder,x.rc.path)))=nwA at *
   have fNA:Fr g5 ((g5.new (.cells [.str [],.nilsl,.int .i64 0,.bool false,.int .i64 0,.int .i64 0,.nilsl] true false)).put g5.nx (.cells [.str nwA.1.path,nvA,.int .i64 nwA.1.own,.bool nwA.1.gone,.int .i64 nwA.1.size,.int .i64 nwA.1.len,ndA] true false)):=(Fr.new _ _).put _ (Nat.le_refl _)
   have wNA:((g5.new (.cells [.str [],.nilsl,.int .i64 0,.bool false,.int .i64 0,.int .i64 0,.nilsl] true false)).put g5.nx (.cells [.str nwA.1.path,nvA,.int .i64 nwA.1.own,.bool nwA.1.gone,.int .i64 nwA.1.size,.int .i64 nwA.1.len,ndA] true false)).get g5.nx=some (.cells [.str nwA.1.path,nvA,.int .i64 nwA.1.own,.bool nwA.1.gone,.int .i64 nwA.1.size,.int .i64 nwA.1.len,ndA] true false):=AH.get_put_eq rfl
   have mNA:((g5.new (.cells [.str [],.nilsl,.int .i64 0,.bool false,.int .i64 0,.int .i64 0,.nilsl] true false)).put g5.nx (.cells [.str nwA.1.path,nvA,.int .i64 nwA.1.own,.bool nwA.1.gone,.int .i64 nwA.1.size,.int .i64 nwA.1.len,ndA] true false)).nx=g5.nx+1:=rfl
   simp (maxSteps:=9^9) -dsimp (disch:=repeat first|rw [nxn]|rw [nxp]|omega) only [go_sem,onvA,ondA,pnvA,pndA,(f5.get _ (show g1.nx+13<g4.nx by omega)).trans q84,(f5.get _ (show g1.nx+12<g4.nx by omega)).trans q74,bE,eq0,en,dp,dc]
   exact bad _ (((fh3.trans f4).trans f5).trans fNA)
  ·have dc:decide (x.copy=[])=false:=decide_eq_false hc
   simp (maxSteps:=9^9) -dsimp (disch:=repeat first|rw [nxn]|rw [nxp]|omega) only [go_sem,bE,en,dc,q7,q8,q3,w3,c9,cl16,o1,o2,p1,p2,p4,p5,o4,o5]
   refine callK_of (someC hS.toMo (x.dev,(x.dfolder,x.rc.path)) hz3.vs.vw hrc3) ?_
   rintro v g4 ⟨⟨b1,rfl,_⟩,f4⟩
   have n4:=f4.nx
   cases b1
   ·simp (maxSteps:=9^9) -dsimp (disch:=repeat first|rw [nxn]|rw [nxp]|omega) only [go_sem]
    exact bad _ (fh3.trans f4)
   have w4:=(f4.get _ (by omega)).trans w3
   have q74:=(f4.get _ (by omega)).trans q7
   have q84:=(f4.get _ (by omega)).trans q8
   simp (maxSteps:=9^9) -dsimp (disch:=repeat first|rw [nxn]|rw [nxp]|omega) only [go_sem,w4]
   refine callK_of (nowC hS.toMk (x.dev,(x.dfolder,x.rc.path)) (hz3.fr f4).vs.vw (fun _ _=>rfl)) ?_
   rintro v g5 ⟨⟨cn,rfl,hcnA⟩,f5⟩
   have nnA:=f5.nx
   obtain ⟨nvA,ndA,rfl,hnvA,hndA,_⟩:=hcnA
   have onvA:=hnvA.ln.2.2.2
   have ondA:=hndA.ln.2.2
   have pnvA:=oneM onvA
   have pndA:=oneM ondA
   generalize (nowF l (x.dev,(x.dfolder,x.rc.path)))=nwA at *
   have fNA:Fr g5 ((g5.new (.cells [.str [],.nilsl,.int .i64 0,.bool false,.int .i64 0,.int .i64 0,.nilsl] true false)).put g5.nx (.cells [.str nwA.1.path,nvA,.int .i64 nwA.1.own,.bool nwA.1.gone,.int .i64 nwA.1.size,.int .i64 nwA.1.len,ndA] true false)):=(Fr.new _ _).put _ (Nat.le_refl _)
   have wNA:((g5.new (.cells [.str [],.nilsl,.int .i64 0,.bool false,.int .i64 0,.int .i64 0,.nilsl] true false)).put g5.nx (.cells [.str nwA.1.path,nvA,.int .i64 nwA.1.own,.bool nwA.1.gone,.int .i64 nwA.1.size,.int .i64 nwA.1.len,ndA] true false)).get g5.nx=some (.cells [.str nwA.1.path,nvA,.int .i64 nwA.1.own,.bool nwA.1.gone,.int .i64 nwA.1.size,.int .i64 nwA.1.len,ndA] true false):=AH.get_put_eq rfl
   have mNA:((g5.new (.cells [.str [],.nilsl,.int .i64 0,.bool false,.int .i64 0,.int .i64 0,.nilsl] true false)).put g5.nx (.cells [.str nwA.1.path,nvA,.int .i64 nwA.1.own,.bool nwA.1.gone,.int .i64 nwA.1.size,.int .i64 nwA.1.len,ndA] true false)).nx=g5.nx+1:=rfl
   have q75:=(f5.get _ (show g1.nx+12<g4.nx by omega)).trans q74
   have q85:=(f5.get _ (show g1.nx+13<g4.nx by omega)).trans q84
   have w5:=(f5.get _ (show h.nx+1<g4.nx by omega)).trans w4
   have ek:=fun g=>neSb g x.copy x.rc.path
   have hcp5:Ra (fun _=>0) ((g5.new (.cells [.str [],.nilsl,.int .i64 0,.bool false,.int .i64 0,.int .i64 0,.nilsl] true false)).put g5.nx (.cells [.str nwA.1.path,nvA,.int .i64 nwA.1.own,.bool nwA.1.gone,.int .i64 nwA.1.size,.int .i64 nwA.1.len,ndA] true false)) [.str x.cp.path,v2,.int .i64 x.cp.own,.bool x.cp.gone,.int .i64 x.cp.size,.int .i64 x.cp.len,d2] x.cp:=(((hcp3.fr f4).fr f5).fr fNA)
   have hf:=(((fh3.trans f4).trans f5).trans fNA)
   by_cases he:x.copy=x.rc.path
   ·have de:decide (x.copy=x.rc.path)=true:=decide_eq_true he
    simp (maxSteps:=9^9) -dsimp (disch:=repeat first|rw [nxn]|rw [nxp]|omega) only [go_sem,onvA,ondA,pnvA,pndA,q75,q85,w5,bE,eq0,en,dp,dc,ek,de]
    exact bad _ hf
   have de:decide (x.copy=x.rc.path)=false:=decide_eq_false he
   simp (maxSteps:=9^9) -dsimp (disch:=repeat first|rw [nxn]|rw [nxp]|omega) only [go_sem,onvA,ondA,pnvA,pndA,q75,q85,w5,bE,eq0,en,dp,dc,ek,de,o4,o5,p4,p5]
   refine callK_of (changedC hS.toMo (x.dev,(x.dfolder,x.copy)) (hz.fr hf).vs.vw hcp5 (fun _ _=>rfl)) ?_
   rintro v g8 ⟨⟨b8,rfl,hb8⟩,f8⟩
   have q88:=(f8.get (g1.nx+13) (by omega)).trans ((fNA.get _ (by omega)).trans q85)
   have wA8:=(f8.get g5.nx (by omega)).trans wNA
   cases b8
   ·simp (maxSteps:=9^9) -dsimp (disch:=repeat first|rw [nxn]|rw [nxp]|omega) only [go_sem,q88,wA8]
    exact bad _ (hf.trans f8)
   cases hg8:x.cp.gone
   case true =>
    rw [hg8] at q88
    simp (maxSteps:=9^9) -dsimp (disch:=repeat first|rw [nxn]|rw [nxp]|omega) only [go_sem,q88,wA8]
    exact bad _ (hf.trans f8)
   rw [hg8] at q88
   simp (maxSteps:=9^9) -dsimp (disch:=repeat first|rw [nxn]|rw [nxp]|omega) only [go_sem,q88,wA8,onvA,ondA,pnvA,pndA,o4,o5,p4,p5]
   have hd2':=((((hd23.gk (f4.gk _)).gk (f5.gk _)).gk (fNA.gk _)).gk (f8.gk _))
   have hdA':=((hndA.gk (fNA.gk _)).gk (f8.gk _))
   refine callK_of (blockSameC hS.toMr (a:=x.cp) (b:=nwA.1) hd2' hdA') ?_
   rintro v g9 ⟨rfl,f9⟩
   try simp (maxSteps:=9^9) -dsimp (disch:=repeat first|rw [nxn]|rw [nxp]|omega) only [go_sem]
   exact ⟨⟨_,rfl,fun _ _=>⟨hb8 rfl,he⟩⟩,(hf.trans f8).trans f9⟩
end
end Go.Proofs.YtihigekgnnoejaaGreatDoor.mdl
end