/- Texts joined: MIt, MIu, MIv. -/
import Derived.Test.YtihigekgnnoejaaGreatDoorH2
set_option maxRecDepth 100000
set_option linter.unusedVariables false
set_option linter.unusedSimpArgs false
set_option maxHeartbeats 64000000
section
namespace Go.Proofs.YtihigekgnnoejaaGreatDoor.mdl
open Go Go.Abs Go.Proofs
theorem Sa.sv {K:Nat→Nat} {h:AH} {cs:List AV} {x:Se} (hx:Sa K h cs x):sameAV 20 (.agg cs) (.agg cs)=true:=by
 obtain ⟨v1,d1,v2,d2,rw',rv,rfl,h1,h2,h3,h4,h5,h6,h7,h8⟩:=hx
 have s1:=h1.ln.2.2.1
 have s2:=h2.ln.2.1
 have s4:=h4.ln.2.2.1
 have s5:=h5.ln.2.1
 have s7:=h7.ln.2.1
 have s8:=h8.ln.2.1
 have key:∀(l:List AV),(∀a∈l,sameAV 19 a a=true)→Go.Abs.sameL (sameAV 19) l l=true:=fun l=>by
  induction l with
  | nil=>intro _;rfl
  | cons a l ih=>intro hh;simp only [Go.Abs.sameL,hh a (List.mem_cons_self ..),ih fun b hb=>hh b (List.mem_cons_of_mem _ hb)];rfl
 have low:∀a,sameAV 20 a a=true→(∀l,a≠.agg l)→(∀l,a≠.tup l)→(∀t v,a≠.iface t v)→sameAV 19 a a=true:=fun a ha h1 h2 h3=>by
  cases a <;> first | exact ha | exact (h1 _ rfl).elim | exact (h2 _ rfl).elim | exact (h3 _ _ rfl).elim
 have nf:∀ {K:Nat→Nat} {z:Nat} {h:AH} {v:AV} {m:List AV},Fl K z h v m→sameAV 19 v v=true:=fun hh=>by
  rcases flShape hh with ⟨rfl,_⟩ | ⟨_,_,_,_,rfl⟩
  ·rfl
  ·simp [sameAV]
 have ns:∀ {α:Type} {K:Nat→Nat} {z:Nat} {E:List AV→α→Prop} {h:AH} {v:AV} {l:List α},Sl K z E h v l→sameAV 19 v v=true:=fun hh=>by
  rcases Sl.shape hh with ⟨rfl,_⟩ | ⟨_,_,_,rfl⟩
  ·rfl
  ·simp [sameAV]
 show Go.Abs.sameL (sameAV 19) _ _=true
 refine key _ fun a ha=>?_
 simp only [List.mem_cons,List.not_mem_nil,or_false] at ha
 rcases ha with rfl | rfl | rfl | rfl | rfl | rfl | rfl | rfl | rfl | rfl | rfl | rfl | rfl | rfl | rfl | rfl | rfl | rfl | rfl | rfl | rfl | rfl | rfl | rfl | rfl | rfl | rfl | rfl | rfl | rfl <;> first | exact nf h1.1 | exact nf h2.1 | exact nf h4.1 | exact nf h5.1 | exact ns h7.1 | exact ns h8.1 | simp [sameAV]
theorem Sa.rc {K:Nat→Nat} {h:AH} {x:Se} {v1 d1:AV} (h1:Cv K h v1 x.rc.vec) (h2:Dv K h d1 x.rc.digs) (h3:x.rc.path.length≤1000000):Ra K h [.str x.rc.path,v1,.int .i64 x.rc.own,.bool x.rc.gone,.int .i64 x.rc.size,.int .i64 x.rc.len,d1] x.rc:=⟨v1,d1,rfl,h1,h2,h3⟩
section
variable {S : Sums}
theorem scannedC (hS:Nf S) {Inv:Nat→List Hd→Prop} (hI:InvOK Inv) {n0 n b:Nat} {K:Nat→Nat} {h:AH} {p:Nat} {l:List Hd} {s:List Mt} {cs:List AV} {x:Se} (hz:Zs n0 K h p l s) (hx:Sa K h cs x) (hi:Inv n l) (hb:SB b s) (hn:n+20<1000000):RnC Tryz.prog S 56 [.ptr p 0,.agg cs] h (Act Inv n0 K h p (n+20) (b+1)):=by
 have hx0:=hx
 obtain ⟨v1,d1,v2,d2,rw',rv,rfl,h1,h2,h3,h4,h5,h6,h7,h8⟩:=hx
 have o1:=h1.ln.2.2.2
 have o2:=h2.ln.2.2
 have o4:=h4.ln.2.2.2
 have o5:=h5.ln.2.2
 have o7:=h7.ln.2.2
 have o8:=h8.ln.2.2
 have p1:=oneM o1
 have p2:=oneM o2
 have p4:=oneM o4
 have p5:=oneM o5
 have p7:=oneM o7
 have p8:=oneM o8
 have hrc:=Sa.rc (x:=x) h1 h2 h3
 have hrs:=hrc.sv
 have hxs:=hx0.sv
 refine RnC.enter' Tryz.f56 _ 28 [.tmp 4] (hS.nb _ _ _ (by simp)) bd56 Tryz.func56 rfl rfl rfl ?_
 simp -dsimp only [go_sem,o1,o2,o4,o5,o7,o8,p1,p2,p4,p5,p7,p8]
 generalize hC:([.int .i64 x.kind,.int .i64 x.dev,.int .i64 x.peer,.int .i64 x.num,.str x.folder,.str x.path,.int .i64 x.dkind,.str x.dfolder,.str x.dpath,.str x.rc.path,v1,.int .i64 x.rc.own,.bool x.rc.gone,.int .i64 x.rc.size,.int .i64 x.rc.len,d1,.str x.copy,.str x.cp.path,v2,.int .i64 x.cp.own,.bool x.cp.gone,.int .i64 x.cp.size,.int .i64 x.cp.len,d2,.int .i64 x.ckind,.str x.cfolder,.int .i64 x.cdev,.int .i64 x.mt.own,rw',rv]:List AV)=C at *
 have c30:C.take 30=C:=by rw [←hC];rfl
 have cl:C.length=30:=by rw [←hC];rfl
 have c9:(C.drop 9).take 7=[.str x.rc.path,v1,.int .i64 x.rc.own,.bool x.rc.gone,.int .i64 x.rc.size,.int .i64 x.rc.len,d1]:=by rw [←hC];rfl
 have cl30:30≤C.length:=by omega
 have cl16:16≤C.length:=by omega
 have f1:Fr h (h.new (.cells C true false)):=Fr.new _ _
 have q1:(h.new (.cells C true false)).get h.nx=some (.cells C true false):=AH.get_new_eq rfl
 have n1:(h.new (.cells C true false)).nx=h.nx+1:=rfl
 generalize h.new (.cells C true false)=g1 at f1 q1 n1 ⊢
 refine syDraw.keepN 9 (fun j=>j=h.nx) (by kernel_rfl) (by kernel_rfl) rfl ?_
 have fA:Fr g1 { tr:=g1.tr,nx:=g1.nx+9 }:=(Fr.refl g1).more _ (by omega)
 simp -dsimp only [go_sem,q1,c30,cl30,true_and,true_or,or_true,implies_true,svi,svb,svs,svp,hxs]
 refine callK_of (atC hS ((hx0.fr f1).fr fA)) ?_
 rintro v g2 ⟨rfl,f2⟩
 have n2:g1.nx+9≤g2.nx:=f2.nx
 refine ⟨fun j hj=>f2.get j (by show j<g1.nx+9;omega),?_⟩
 have f12:=fA.trans f2
 have q2:=(f12.get _ (by omega)).trans q1
 simp -dsimp (disch:=repeat first|rw [nxn]|rw [nxp]|omega) only [go_sem,q2,c9,cl16,o1,o2,p1,p2,true_and,true_or,or_true,implies_true,svi,svb,svs,svp,hrs]
 refine ⟨fun j hj=>(AH.get_put_ne (by omega)).trans ((AH.get_put_ne (by omega)).trans (AH.get_put_ne (by omega))),fun j hj=>AH.get_put_ne (by omega),?_⟩
 generalize hg3:((((g2.put (g1.nx+5) (.cells [.int .i64 0,.str [],.str []] true false)).put (g1.nx+6) (.cells [.str [],.nilsl,.int .i64 0,.bool false,.int .i64 0,.int .i64 0,.nilsl] true false)).put (g1.nx+5) (.cells [.int .i64 x.dev,.str x.dfolder,.str x.rc.path] true false)).put (g1.nx+6) (.cells [.str x.rc.path,v1,.int .i64 x.rc.own,.bool x.rc.gone,.int .i64 x.rc.size,.int .i64 x.rc.len,d1] true false))=g3
 have n3:g3.nx=g2.nx:=by rw [←hg3];rfl
 have f13:Fr g1 g3:=by rw [←hg3];exact (((f12.put _ (by omega)).put _ (by omega)).put _ (by omega)).put _ (by omega)
 have q5:g3.get (g1.nx+5)=some (.cells [.int .i64 x.dev,.str x.dfolder,.str x.rc.path] true false):=by rw [←hg3];exact (AH.get_put_ne (by omega)).trans (AH.get_put_eq rfl)
 have q6:g3.get (g1.nx+6)=some (.cells [.str x.rc.path,v1,.int .i64 x.rc.own,.bool x.rc.gone,.int .i64 x.rc.size,.int .i64 x.rc.len,d1] true false):=by rw [←hg3];exact AH.get_put_eq rfl
 clear hg3
 have q3:=(f13.get _ (by omega)).trans q1
 have fh3:=f1.trans f13
 have hz3:=hz.fr fh3
 have hbd:=hI.bd n l hi
 have hl6:l.length<1000000:=by omega
 have hp6:∀y∈l,y.past.length<1000000:=fun y hy=>by have:=hbd.2 y hy;omega
 have hst:=hI.st n l hi
 have hr3:Ra K g3 [.str x.rc.path,v1,.int .i64 x.rc.own,.bool x.rc.gone,.int .i64 x.rc.size,.int .i64 x.rc.len,d1] x.rc:=hrc.fr fh3
 have hr30:Ra (fun _=>0) g3 [.str x.rc.path,v1,.int .i64 x.rc.own,.bool x.rc.gone,.int .i64 x.rc.size,.int .i64 x.rc.len,d1] x.rc:=hr3.col fun _ _ _=>rfl
 refine callK_of (takenC hS.toMo (x.dev,(x.dfolder,x.rc.path)) hz3.vs.vw hr30) ?_
 rintro v g4 ⟨⟨bt,rfl,_⟩,f4⟩
 have n4:=f4.nx
 have q54:=(f4.get _ (by omega)).trans q5
 have q64:=(f4.get _ (by omega)).trans q6
 cases bt
 ·simp -dsimp only [go_sem,q54,q64,o1,o2,p1,p2]
  refine callK_of (changedC hS.toMo (x.dev,(x.dfolder,x.rc.path)) (hz3.fr f4).vs.vw (hr30.fr f4) (fun _ _=>rfl)) ?_
  rintro v g5 ⟨⟨bc,rfl,_⟩,f5⟩
  have n5:=f5.nx
  have q55:=(f5.get _ (by omega)).trans q54
  have q65:=(f5.get _ (by omega)).trans q64
  cases bc
  ·simp -dsimp only [go_sem]
   exact ⟨1,K,l,s,rfl,(hz3.fr f4).fr f5,fr_zg ((fh3.trans f4).trans f5) K,fun hh=>by cases hh⟩
  simp -dsimp only [go_sem,q55,q65,o1,o2,p1,p2]
  refine callK_of (putC hS (x.dev,(x.dfolder,x.rc.path)) ((hz3.fr f4).fr f5) ((hr3.fr f4).fr f5) hl6 hp6 hst) ?_
  rintro v g6 hcase
  rcases hcase with ⟨rfl,hzz,zgg⟩ | ⟨rfl,hbk,KK,hzz,zgg⟩
  ·try simp -dsimp only [go_sem]
   exact ⟨3,K,l,s,rfl,hzz,(fr_zg ((fh3.trans f4).trans f5) K).trans zgg,fun hh=>by cases hh⟩
  ·try simp -dsimp only [go_sem]
   exact ⟨0,KK,_,s,rfl,hzz,(fr_zg ((fh3.trans f4).trans f5) K).trans zgg,fun _=>⟨hI.mono _ _ _ (hI.set n l _ _ hi rfl hbk) (by omega),hb.mono (by omega)⟩⟩
 ·simp -dsimp only [go_sem,q54,q64,o1,o2,p1,p2]
  refine callK_of (putC hS (x.dev,(x.dfolder,x.rc.path)) (hz3.fr f4) (hr3.fr f4) hl6 hp6 hst) ?_
  rintro v g6 hcase
  rcases hcase with ⟨rfl,hzz,zgg⟩ | ⟨rfl,hbk,KK,hzz,zgg⟩
  ·try simp -dsimp only [go_sem]
   exact ⟨3,K,l,s,rfl,hzz,(fr_zg (fh3.trans f4) K).trans zgg,fun hh=>by cases hh⟩
  ·try simp -dsimp only [go_sem]
   exact ⟨0,KK,_,s,rfl,hzz,(fr_zg (fh3.trans f4) K).trans zgg,fun _=>⟨hI.mono _ _ _ (hI.set n l _ _ hi rfl hbk) (by omega),hb.mono (by omega)⟩⟩
theorem adoptedC (hS:Nf S) {Inv:Nat→List Hd→Prop} (hI:InvOK Inv) {n0 n b:Nat} {K:Nat→Nat} {h:AH} {p:Nat} {l:List Hd} {s:List Mt} {cs:List AV} {x:Se} (hz:Zs n0 K h p l s) (hx:Sa K h cs x) (hi:Inv n l) (hb:SB b s) (hn:n+20<1000000):RnC Tryz.prog S 57 [.ptr p 0,.agg cs] h (Act Inv n0 K h p (n+20) (b+1)):=by
 have hx0:=hx
 obtain ⟨v1,d1,v2,d2,rw',rv,rfl,h1,h2,h3,h4,h5,h6,h7,h8⟩:=hx
 have o1:=h1.ln.2.2.2
 have o2:=h2.ln.2.2
 have o4:=h4.ln.2.2.2
 have o5:=h5.ln.2.2
 have o7:=h7.ln.2.2
 have o8:=h8.ln.2.2
 have p1:=oneM o1
 have p2:=oneM o2
 have p4:=oneM o4
 have p5:=oneM o5
 have p7:=oneM o7
 have p8:=oneM o8
 have hrc:=Sa.rc (x:=x) h1 h2 h3
 have hrs:=hrc.sv
 have hxs:=hx0.sv
 refine RnC.enter' Tryz.f57 _ 41 [.tmp 4] (hS.nb _ _ _ (by simp)) bd57 Tryz.func57 rfl rfl rfl ?_
 simp -dsimp only [go_sem,o1,o2,o4,o5,o7,o8,p1,p2,p4,p5,p7,p8]
 generalize hC:([.int .i64 x.kind,.int .i64 x.dev,.int .i64 x.peer,.int .i64 x.num,.str x.folder,.str x.path,.int .i64 x.dkind,.str x.dfolder,.str x.dpath,.str x.rc.path,v1,.int .i64 x.rc.own,.bool x.rc.gone,.int .i64 x.rc.size,.int .i64 x.rc.len,d1,.str x.copy,.str x.cp.path,v2,.int .i64 x.cp.own,.bool x.cp.gone,.int .i64 x.cp.size,.int .i64 x.cp.len,d2,.int .i64 x.ckind,.str x.cfolder,.int .i64 x.cdev,.int .i64 x.mt.own,rw',rv]:List AV)=C at *
 have c30:C.take 30=C:=by rw [←hC];rfl
 have cl:C.length=30:=by rw [←hC];rfl
 have c9:(C.drop 9).take 7=[.str x.rc.path,v1,.int .i64 x.rc.own,.bool x.rc.gone,.int .i64 x.rc.size,.int .i64 x.rc.len,d1]:=by rw [←hC];rfl
 have cl30:30≤C.length:=by omega
 have cl16:16≤C.length:=by omega
 have f1:Fr h (h.new (.cells C true false)):=Fr.new _ _
 have q1:(h.new (.cells C true false)).get h.nx=some (.cells C true false):=AH.get_new_eq rfl
 have n1:(h.new (.cells C true false)).nx=h.nx+1:=rfl
 generalize h.new (.cells C true false)=g1 at f1 q1 n1 ⊢
 refine syDraw.keepN 9 (fun j=>j=h.nx) (by kernel_rfl) (by kernel_rfl) rfl ?_
 have fA:Fr g1 { tr:=g1.tr,nx:=g1.nx+9 }:=(Fr.refl g1).more _ (by omega)
 simp -dsimp only [go_sem,q1,c30,cl30,true_and,true_or,or_true,implies_true,svi,svb,svs,svp,hxs]
 refine callK_of (atC hS ((hx0.fr f1).fr fA)) ?_
 rintro v g2 ⟨rfl,f2⟩
 have n2:g1.nx+9≤g2.nx:=f2.nx
 refine ⟨fun j hj=>f2.get j (by show j<g1.nx+9;omega),?_⟩
 have f12:=fA.trans f2
 have q2:=(f12.get _ (by omega)).trans q1
 simp -dsimp (disch:=repeat first|rw [nxn]|rw [nxp]|omega) only [go_sem,q2,c9,cl16,o1,o2,p1,p2,true_and,true_or,or_true,implies_true,svi,svb,svs,svp,hrs]
 refine ⟨fun j hj=>(AH.get_put_ne (by omega)).trans ((AH.get_put_ne (by omega)).trans (AH.get_put_ne (by omega))),fun j hj=>AH.get_put_ne (by omega),?_⟩
 generalize hg3:((((g2.put (g1.nx+5) (.cells [.int .i64 0,.str [],.str []] true false)).put (g1.nx+6) (.cells [.str [],.nilsl,.int .i64 0,.bool false,.int .i64 0,.int .i64 0,.nilsl] true false)).put (g1.nx+5) (.cells [.int .i64 x.dev,.str x.dfolder,.str x.rc.path] true false)).put (g1.nx+6) (.cells [.str x.rc.path,v1,.int .i64 x.rc.own,.bool x.rc.gone,.int .i64 x.rc.size,.int .i64 x.rc.len,d1] true false))=g3
 have n3:g3.nx=g2.nx:=by rw [←hg3];rfl
 have f13:Fr g1 g3:=by rw [←hg3];exact (((f12.put _ (by omega)).put _ (by omega)).put _ (by omega)).put _ (by omega)
 have q5:g3.get (g1.nx+5)=some (.cells [.int .i64 x.dev,.str x.dfolder,.str x.rc.path] true false):=by rw [←hg3];exact (AH.get_put_ne (by omega)).trans (AH.get_put_eq rfl)
 have q6:g3.get (g1.nx+6)=some (.cells [.str x.rc.path,v1,.int .i64 x.rc.own,.bool x.rc.gone,.int .i64 x.rc.size,.int .i64 x.rc.len,d1] true false):=by rw [←hg3];exact AH.get_put_eq rfl
 clear hg3
 have q3:=(f13.get _ (by omega)).trans q1
 have fh3:=f1.trans f13
 have hz3:=hz.fr fh3
 have hbd:=hI.bd n l hi
 have hl6:l.length<1000000:=by omega
 have hp6:∀y∈l,y.past.length<1000000:=fun y hy=>by have:=hbd.2 y hy;omega
 have hst:=hI.st n l hi
 have hr3:Ra K g3 [.str x.rc.path,v1,.int .i64 x.rc.own,.bool x.rc.gone,.int .i64 x.rc.size,.int .i64 x.rc.len,d1] x.rc:=hrc.fr fh3
 have hr30:Ra (fun _=>0) g3 [.str x.rc.path,v1,.int .i64 x.rc.own,.bool x.rc.gone,.int .i64 x.rc.size,.int .i64 x.rc.len,d1] x.rc:=hr3.col fun _ _ _=>rfl
 refine callK_of (nowC hS.toMk (x.dev,(x.dfolder,x.rc.path)) hz3.vs.vw (fun _ _=>rfl)) ?_
 rintro v g4 ⟨⟨cn,rfl,hcn⟩,f4⟩
 have n4:=f4.nx
 obtain ⟨nv,nd,rfl,hnv,hnd,_⟩:=hcn
 have onv:=hnv.ln.2.2.2
 have ond:=hnd.ln.2.2
 have pnv:=oneM onv
 have pnd:=oneM ond
 have q54:=(f4.get _ (by omega)).trans q5
 have q64:=(f4.get _ (by omega)).trans q6
 have hz4:=hz3.fr f4
 simp -dsimp only [go_sem,onv,ond,pnv,pnd]
 generalize hk:(nowF l (x.dev,(x.dfolder,x.rc.path)))=nw at *
 have f45:Fr g4 ((g4.new (.cells [.str [],.nilsl,.int .i64 0,.bool false,.int .i64 0,.int .i64 0,.nilsl] true false)).put g4.nx (.cells [.str nw.1.path,nv,.int .i64 nw.1.own,.bool nw.1.gone,.int .i64 nw.1.size,.int .i64 nw.1.len,nd] true false)):=(Fr.new _ _).put _ (Nat.le_refl _)
 have n45:((g4.new (.cells [.str [],.nilsl,.int .i64 0,.bool false,.int .i64 0,.int .i64 0,.nilsl] true false)).put g4.nx (.cells [.str nw.1.path,nv,.int .i64 nw.1.own,.bool nw.1.gone,.int .i64 nw.1.size,.int .i64 nw.1.len,nd] true false)).nx=g4.nx+1:=rfl
 generalize ((g4.new (.cells [.str [],.nilsl,.int .i64 0,.bool false,.int .i64 0,.int .i64 0,.nilsl] true false)).put g4.nx (.cells [.str nw.1.path,nv,.int .i64 nw.1.own,.bool nw.1.gone,.int .i64 nw.1.size,.int .i64 nw.1.len,nd] true false))=g5 at f45 n45 ⊢
 have q55:=(f45.get _ (by omega)).trans q54
 have q65:=(f45.get _ (by omega)).trans q64
 have hz5:=hz4.fr f45
 have fh5:=(fh3.trans f4).trans f45
 obtain ⟨hv,sv,hob,hoy,hoz,hsv⟩:=hz5.ob
 have hvs:=hz5.vs
 obtain ⟨hv',sv',hob',_,hhs,hms⟩:=hvs
 rw [hob] at hob'
 cases hob'
 obtain ⟨ohv,shv⟩:=hoy.one
 obtain ⟨osv,ssv⟩:=hoz.one
 have phv:=oneM ohv
 have psv:=oneM osv
 have hpn:=hz5.pn
 have bad:∀g',Fr g5 g'→Act Inv n0 K h p (n+20) (b+1) (.int .i64 2) g':=fun g' f=>⟨2,K,l,s,rfl,hz5.fr f,fr_zg (fh5.trans f) K,fun hh=>by cases hh⟩
 refine syDraw.keepN 17 (fun j=>j=p∨j=g1.nx+5∨j=g1.nx+6) (by kernel_rfl) (by kernel_rfl) rfl ?_
 have fx:Fr g5 { tr:=g5.tr,nx:=g5.nx+17 }:=(Fr.refl g5).more _ (by omega)
 have nx5:g5.nx≤g5.nx+17:=by omega
 have sag:sameAV 20 (.agg [hv,sv]) (.agg [hv,sv])=true:=by
  rcases Sl.shape hhs.1 with ⟨rfl,_⟩ | ⟨_,_,_,rfl⟩ <;> rcases Sl.shape hms.1 with ⟨rfl,_⟩ | ⟨_,_,_,rfl⟩ <;> simp [sameAV,Go.Abs.sameL]
 cases his:nw.2
 case true =>
  simp -dsimp only [go_sem,his,q55,q65,hob,ohv,osv,shv,ssv,phv,psv,sag,o1,o2,p1,p2,true_and,true_or,or_true,implies_true,svi,svb,svs,svp,hrs]
  exact bad _ fx
 cases hgo:x.rc.gone
 case false =>
  simp -dsimp only [go_sem,his,hgo,q55,q65,hob,ohv,osv,shv,ssv,phv,psv,sag,o1,o2,p1,p2,true_and,true_or,or_true,implies_true,svi,svb,svs,svp,hrs]
  exact bad _ fx
 rw [hgo] at hrs hr30 hr3 q65
 simp -dsimp only [go_sem,his,hgo,q55,q65,hob,ohv,osv,shv,ssv,phv,psv,sag,o1,o2,p1,p2,true_and,true_or,or_true,implies_true,svi,svb,svs,svp,hrs]
 refine callK_of (knowsC hS.toMp x.dfolder (hhs.fr fx) osv (((hr30.fr f4).fr f45).fr fx)) ?_
 rintro v g6 ⟨rfl,f6⟩
 have n6:g5.nx+17≤g6.nx:=f6.nx
 refine ⟨fun j hj=>f6.get j (by show j<g5.nx+17;rcases hj with rfl | rfl | rfl <;> omega),?_⟩
 have f56:=fx.trans f6
 have q56:=(f56.get _ (by omega)).trans q55
 have q66:=(f56.get _ (by omega)).trans q65
 cases hkn:((versF l x.dfolder x.rc.path).any fun y=>sameR y x.rc)
 ·simp -dsimp only [go_sem,hkn]
  exact bad _ f56
 ·simp -dsimp only [go_sem,hkn,q56,q66,o1,o2,p1,p2]
  refine callK_of (putC hS (x.dev,(x.dfolder,x.rc.path)) (hz5.fr f56) (((hr3.fr f4).fr f45).fr f56) hl6 hp6 hst) ?_
  rintro v g7 hcase
  rcases hcase with ⟨rfl,hzz,zgg⟩ | ⟨rfl,hbk,KK,hzz,zgg⟩
  ·try simp -dsimp only [go_sem]
   exact ⟨3,K,l,s,rfl,hzz,(fr_zg (fh5.trans f56) K).trans zgg,fun hh=>by cases hh⟩
  ·try simp -dsimp only [go_sem]
   exact ⟨0,KK,_,s,rfl,hzz,(fr_zg (fh5.trans f56) K).trans zgg,fun _=>⟨hI.mono _ _ _ (hI.set n l _ _ hi rfl hbk) (by omega),hb.mono (by omega)⟩⟩
end
section
variable {S : Sums}
theorem toldC (hS:Nf S) {Inv:Nat→List Hd→Prop} (hI:InvOK Inv) {n0 n b:Nat} {K:Nat→Nat} {h:AH} {p:Nat} {l:List Hd} {s:List Mt} {cs:List AV} {x:Se} (hz:Zs n0 K h p l s) (hx:Sa K h cs x) (hi:Inv n l) (hb:SB b s) (hn:n+20<1000000):RnC Tryz.prog S 44 [.ptr p 0,.agg cs] h (Act Inv n0 K h p (n+20) (b+1)):=by
 have hx0:=hx
 obtain ⟨v1,d1,v2,d2,rw',rv,rfl,h1,h2,h3,h4,h5,h6,h7,h8⟩:=hx
 have o1:=h1.ln.2.2.2
 have o2:=h2.ln.2.2
 have o4:=h4.ln.2.2.2
 have o5:=h5.ln.2.2
 have o7:=h7.ln.2.2
 have o8:=h8.ln.2.2
 have p1:=oneM o1
 have p2:=oneM o2
 have p4:=oneM o4
 have p5:=oneM o5
 have p7:=oneM o7
 have p8:=oneM o8
 have hrc:=Sa.rc (x:=x) h1 h2 h3
 have hrs:=hrc.sv
 have hxs:=hx0.sv
 refine RnC.enter' Tryz.f44 _ 8 [.tmp 4] (hS.nb _ _ _ (by simp)) bd44 Tryz.func44 rfl rfl rfl ?_
 simp -dsimp only [go_sem,o1,o2,o4,o5,o7,o8,p1,p2,p4,p5,p7,p8]
 generalize hC:([.int .i64 x.kind,.int .i64 x.dev,.int .i64 x.peer,.int .i64 x.num,.str x.folder,.str x.path,.int .i64 x.dkind,.str x.dfolder,.str x.dpath,.str x.rc.path,v1,.int .i64 x.rc.own,.bool x.rc.gone,.int .i64 x.rc.size,.int .i64 x.rc.len,d1,.str x.copy,.str x.cp.path,v2,.int .i64 x.cp.own,.bool x.cp.gone,.int .i64 x.cp.size,.int .i64 x.cp.len,d2,.int .i64 x.ckind,.str x.cfolder,.int .i64 x.cdev,.int .i64 x.mt.own,rw',rv]:List AV)=C at *
 have cl:C.length=30:=by rw [←hC];rfl
 have c3:C[3]? = some (.int .i64 x.num):=by rw [←hC];rfl
 have cl4:4≤C.length:=by omega
 by_cases hnn:x.num=1
 ·simp -dsimp only [go_sem,c3,cl4,hnn]
  exact ⟨0,K,l,s,rfl,hz.fr (Fr.new _ _),fr_zg (Fr.new _ _) K,fun _=>⟨hI.mono _ _ _ hi (by omega),hb.mono (by omega)⟩⟩
 ·simp -dsimp only [go_sem,c3,cl4,hnn]
  exact ⟨6,K,l,s,rfl,hz.fr (Fr.new _ _),fr_zg (Fr.new _ _) K,fun hh=>by cases hh⟩
theorem forgotC (hS:Nf S) {Inv:Nat→List Hd→Prop} (hI:InvOK Inv) {n0 n b:Nat} {K:Nat→Nat} {h:AH} {p:Nat} {l:List Hd} {s:List Mt} {cs:List AV} {x:Se} (hz:Zs n0 K h p l s) (hx:Sa K h cs x) (hi:Inv n l) (hb:SB b s) (hn:n+20<1000000):RnC Tryz.prog S 59 [.ptr p 0,.agg cs] h (Act Inv n0 K h p (n+20) (b+1)):=by
 have hx0:=hx
 obtain ⟨v1,d1,v2,d2,rw',rv,rfl,h1,h2,h3,h4,h5,h6,h7,h8⟩:=hx
 have o1:=h1.ln.2.2.2
 have o2:=h2.ln.2.2
 have o4:=h4.ln.2.2.2
 have o5:=h5.ln.2.2
 have o7:=h7.ln.2.2
 have o8:=h8.ln.2.2
 have p1:=oneM o1
 have p2:=oneM o2
 have p4:=oneM o4
 have p5:=oneM o5
 have p7:=oneM o7
 have p8:=oneM o8
 have hrc:=Sa.rc (x:=x) h1 h2 h3
 have hrs:=hrc.sv
 have hxs:=hx0.sv
 refine RnC.enter' Tryz.f59 _ 53 [.tmp 4] (hS.nb _ _ _ (by simp)) bd59 Tryz.func59 rfl rfl rfl ?_
 simp (maxSteps:=9^9) -dsimp (disch:=repeat first|rw [nxn]|rw [nxp]|omega) only [go_sem,o1,o2,o4,o5,o7,o8,p1,p2,p4,p5,p7,p8]
 generalize hC:([.int .i64 x.kind,.int .i64 x.dev,.int .i64 x.peer,.int .i64 x.num,.str x.folder,.str x.path,.int .i64 x.dkind,.str x.dfolder,.str x.dpath,.str x.rc.path,v1,.int .i64 x.rc.own,.bool x.rc.gone,.int .i64 x.rc.size,.int .i64 x.rc.len,d1,.str x.copy,.str x.cp.path,v2,.int .i64 x.cp.own,.bool x.cp.gone,.int .i64 x.cp.size,.int .i64 x.cp.len,d2,.int .i64 x.ckind,.str x.cfolder,.int .i64 x.cdev,.int .i64 x.mt.own,rw',rv]:List AV)=C at *
 have cl:C.length=30:=by rw [←hC];rfl
 have c1:C[1]? = some (.int .i64 x.dev):=by rw [←hC];rfl
 have c7:C[7]? = some (.str x.dfolder):=by rw [←hC];rfl
 have c8:C[8]? = some (.str x.dpath):=by rw [←hC];rfl
 have cl2:2≤C.length:=by omega
 have cl8:8≤C.length:=by omega
 have cl9:9≤C.length:=by omega
 simp (maxSteps:=9^9) -dsimp (disch:=repeat first|rw [nxn]|rw [nxp]|omega) only [go_sem,c1,c7,c8,cl2,cl8,cl9,bldK]
 have f1:Fr h (h.new (.cells C true false)):=Fr.new _ _
 have q1:(h.new (.cells C true false)).get h.nx=some (.cells C true false):=AH.get_new_eq rfl
 have n1:(h.new (.cells C true false)).nx=h.nx+1:=rfl
 generalize h.new (.cells C true false)=g1 at f1 q1 n1 ⊢
 have hz1:=hz.fr f1
 refine callK_of (findC hS.toMk (x.dev,(x.dfolder,x.dpath)) hz1.vs.vw) ?_
 rintro v g2 ⟨rfl,f2⟩
 have n2:=f2.nx
 have q2:=(f2.get _ (by omega)).trans q1
 have hz2:=hz1.fr f2
 simp (maxSteps:=9^9) -dsimp (disch:=repeat first|rw [nxn]|rw [nxp]|omega) only [go_sem,q2,c1,c7,c8,cl2,cl8,cl9,bldK]
 refine callK_of (nowC hS.toMk (x.dev,(x.dfolder,x.dpath)) hz2.vs.vw (fun _ _=>rfl)) ?_
 rintro v g4 ⟨⟨cn,rfl,hcn⟩,f4⟩
 have n4:=f4.nx
 obtain ⟨nv,nd,rfl,hnv,hnd,_⟩:=hcn
 have onv:=hnv.ln.2.2.2
 have ond:=hnd.ln.2.2
 have pnv:=oneM onv
 have pnd:=oneM ond
 have hz4:=hz2.fr f4
 have fh4:=(f1.trans f2).trans f4
 generalize hk:(nowF l (x.dev,(x.dfolder,x.dpath)))=nw at *
 have f45:Fr g4 ((g4.new (.cells [.str [],.nilsl,.int .i64 0,.bool false,.int .i64 0,.int .i64 0,.nilsl] true false)).put g4.nx (.cells [.str nw.1.path,nv,.int .i64 nw.1.own,.bool nw.1.gone,.int .i64 nw.1.size,.int .i64 nw.1.len,nd] true false)):=(Fr.new _ _).put _ (Nat.le_refl _)
 have bad:∀g',Fr g4 g'→Act Inv n0 K h p (n+20) (b+1) (.int .i64 5) g':=fun g' f=>⟨5,K,l,s,rfl,hz4.fr f,fr_zg (fh4.trans f) K,fun hh=>by cases hh⟩
 cases his:nw.2
 case false =>
  simp (maxSteps:=9^9) -dsimp (disch:=repeat first|rw [nxn]|rw [nxp]|omega) only [go_sem,onv,ond,pnv,pnd,his]
  exact bad _ f45
 cases hgo:nw.1.gone
 case false =>
  simp (maxSteps:=9^9) -dsimp (disch:=repeat first|rw [nxn]|rw [nxp]|omega) only [go_sem,onv,ond,pnv,pnd,his,hgo]
  rw [hgo] at f45
  exact bad _ f45
 rw [hgo] at f45
 have hz5:=hz4.fr f45
 obtain ⟨y,hy,hfi⟩:∃y,l[(findK l (x.dev,(x.dfolder,x.dpath))).1]? = some y∧(findK l (x.dev,(x.dfolder,x.dpath))).2=true:=by
  cases hf:(findK l (x.dev,(x.dfolder,x.dpath))).2
  ·rw [nowF_no hf] at hk
   rw [←hk] at his
   cases his
  ·obtain ⟨y,h1,_⟩:=findK_is hf
   exact ⟨y,h1,rfl⟩
 have hil:=(List.getElem?_eq_some_iff.1 hy).1
 obtain ⟨id,c,css,sv',ev,ed,pv,a1,a2,a3,a4,a5,a6,a7,a8,a9,a10,a11,a12,a13,a14,a15,upd⟩:=hz5.at hy
 have nn5:p<g4.nx∧id<g4.nx:=by
  have hpn:=hz4.pn
  refine ⟨hpn.2.1,?_⟩
  obtain ⟨id',c',css',_,_,_,_,b1,_,_,_,_,_,_,_,_,_,_,_,_,_,b15,_⟩:=hz4.at hy
  rw [f45.get _ hpn.2.1,b1] at a1
  cases a1
  exact b15
 have b1:=(f45.get _ nn5.1).symm.trans a1
 have b2:=(f45.get _ nn5.2).symm.trans a2
 generalize (findK l (x.dev,(x.dfolder,x.dpath))).1=i at *
 have hl0:i*12+3+7≤css.flatten.length:=by omega
 have F1:=flz_put (k:=3) (vs:=[.str [],.nilsl,.int .i64 0,.bool false,.int .i64 0,.int .i64 0,.nilsl]) a4 a5 (show 3+7≤12 by decide)
 have F1':List.take (i*12+3) css.flatten++[.str [],.nilsl,.int .i64 0,.bool false,.int .i64 0,.int .i64 0,.nilsl]++List.drop (i*12+3+7) css.flatten=_:=F1
 simp (maxSteps:=9^9) -dsimp (disch:=repeat first|rw [nxn]|rw [nxp]|omega) only [go_sem,onv,ond,pnv,pnd,his,hgo,b1,b2,hil,hl0,bldR0,F1']
 obtain ⟨u1,u2⟩:=upd (((g4.new (.cells [.str [],.nilsl,.int .i64 0,.bool false,.int .i64 0,.int .i64 0,.nilsl] true false)).put g4.nx (.cells [.str nw.1.path,nv,.int .i64 nw.1.own,.bool true,.int .i64 nw.1.size,.int .i64 nw.1.len,nd] true false)).put id (.cells (css.set i (putCells [.int .i64 y.dev,.str y.folder,.str y.path,.str y.now.path,ev,.int .i64 y.now.own,.bool y.now.gone,.int .i64 y.now.size,.int .i64 y.now.len,ed,pv,.int .i64 (y.start:Nat)] 3 [.str [],.nilsl,.int .i64 0,.bool false,.int .i64 0,.int .i64 0,.nilsl])).flatten true false)) _ { y with now:=rc0 } rfl (AH.get_put_eq rfl) (fun j hj=>AH.get_put_ne hj) (fun gk hpv=>⟨.nilsl,.nilsl,pv,rfl,⟨.inl ⟨rfl,rfl⟩,Nat.zero_le _⟩,⟨.inl ⟨rfl,rfl⟩,Nat.zero_le _⟩,Nat.zero_le _,hpv,a11,a12⟩) rfl
 exact ⟨0,K,_,s,rfl,u1,(fr_zg (fh4.trans f45) K).trans ⟨u2,fun _ _=>rfl⟩,fun _=>⟨hI.mono _ _ _ (hI.clr n l i y hi hy) (by omega),hb.mono (by omega)⟩⟩
end
theorem bldM1 (d:Int):evBuild Tryz.prog 43 [(0,.int .i64 d)]=some (.agg [.int .i64 d,.nilsl]):=by kernel_rfl
theorem eqEr (h:AH) (a b:Int):binA Tryz.prog h .eql 89 (.int .i64 a) (.int .i64 b)=some (.bool (decide (a=b))):=by simp [binA,intA,BEq.beq]
section
variable {S : Sums}
theorem seenUpC (hS:Nf S) {Inv:Nat→List Hd→Prop} (hI:InvOK Inv) {n0 n b:Nat} {K:Nat→Nat} {h:AH} {p:Nat} {l:List Hd} {s:List Mt} {cs:List AV} {x:Se} (hz:Zs n0 K h p l s) (hx:Sa K h cs x) (hi:Inv n l) (hb:SB b s) (hn:n+20<1000000) (hbb:b<1000000) (hmx:szM x.mt (b+1)):RnC Tryz.prog S 46 [.ptr p 0,.agg cs] h (Act Inv n0 K h p (n+20) (b+1)):=by
 have hx0:=hx
 obtain ⟨v1,d1,v2,d2,rw',rv,rfl,h1,h2,h3,h4,h5,h6,h7,h8⟩:=hx
 have o1:=h1.ln.2.2.2
 have o2:=h2.ln.2.2
 have o4:=h4.ln.2.2.2
 have o5:=h5.ln.2.2
 have o7:=h7.ln.2.2
 have o8:=h8.ln.2.2
 have p1:=oneM o1
 have p2:=oneM o2
 have p4:=oneM o4
 have p5:=oneM o5
 have p7:=oneM o7
 have p8:=oneM o8
 have hrc:=Sa.rc (x:=x) h1 h2 h3
 have hrs:=hrc.sv
 have hxs:=hx0.sv
 refine RnC.enter' Tryz.f46 _ 23 [.tmp 4] (hS.nb _ _ _ (by simp)) bd46 Tryz.func46 rfl rfl rfl ?_
 simp -dsimp only [go_sem,o1,o2,o4,o5,o7,o8,p1,p2,p4,p5,p7,p8]
 generalize hC:([.int .i64 x.kind,.int .i64 x.dev,.int .i64 x.peer,.int .i64 x.num,.str x.folder,.str x.path,.int .i64 x.dkind,.str x.dfolder,.str x.dpath,.str x.rc.path,v1,.int .i64 x.rc.own,.bool x.rc.gone,.int .i64 x.rc.size,.int .i64 x.rc.len,d1,.str x.copy,.str x.cp.path,v2,.int .i64 x.cp.own,.bool x.cp.gone,.int .i64 x.cp.size,.int .i64 x.cp.len,d2,.int .i64 x.ckind,.str x.cfolder,.int .i64 x.cdev,.int .i64 x.mt.own,rw',rv]:List AV)=C at *
 have cl:C.length=30:=by rw [←hC];rfl
 have c1:C[1]? = some (.int .i64 x.dev):=by rw [←hC];rfl
 have c27:C[27]? = some (.int .i64 x.mt.own):=by rw [←hC];rfl
 have cl2:2≤C.length:=by omega
 have cl28:28≤C.length:=by omega
 have cl29:29≤C.length:=by omega
 have c27m:(C.drop 27).take 2=[.int .i64 x.mt.own,rw']:=by rw [←hC];rfl
 try simp -dsimp only [go_sem,c27m,cl29,o7,p7]
 have f1:Fr h (h.new (.cells C true false)):=Fr.new _ _
 have q1:(h.new (.cells C true false)).get h.nx=some (.cells C true false):=AH.get_new_eq rfl
 have n1:(h.new (.cells C true false)).nx=h.nx+1:=rfl
 generalize h.new (.cells C true false)=g1 at f1 q1 n1 ⊢
 have hma:Ma K g1 [.int .i64 x.mt.own,rw'] x.mt:=⟨rw',rfl,h7.fr f1⟩
 refine callK_of (mcheckC hS hma) ?_
 rintro v g2 ⟨⟨e,rfl⟩,f2⟩
 have n2:=f2.nx
 have q2:=(f2.get _ (by omega)).trans q1
 have hz2:=(hz.fr f1).fr f2
 have ee:=fun g=>eqEr g e 0
 by_cases he:e=0
 ·have hed:decide (e=0)=true:=decide_eq_true he
  by_cases ho:x.mt.own=x.dev
  ·simp -dsimp only [go_sem,ee,hed,q2,c27,c1,cl2,cl28,cl29,c27m,ho,o7,p7]
   rw [ho] at hma
   refine callK_of (shareC hS x.dev hz2 (hma.fr f2) (hI.g n) hi (by have:=hb.1;omega)) ?_
   rintro v g3 ⟨rfl,KK,l',hzz,zgg,hil⟩
   try simp -dsimp only [go_sem]
   exact ⟨0,KK,l',_,rfl,hzz,(fr_zg (f1.trans f2) K).trans zgg,fun _=>⟨hI.mono _ _ _ hil (by omega),hb.sh x.dev hmx⟩⟩
  ·simp -dsimp only [go_sem,ee,hed,q2,c27,c1,cl2,cl28,cl29,ho,o7,p7]
   exact ⟨0,K,l,s,rfl,hz2,fr_zg (f1.trans f2) K,fun _=>⟨hI.mono _ _ _ hi (by omega),hb.mono (by omega)⟩⟩
 ·have hed:decide (e=0)=false:=decide_eq_false he
  simp -dsimp only [go_sem,ee,hed]
  exact ⟨0,K,l,s,rfl,hz2,fr_zg (f1.trans f2) K,fun _=>⟨hI.mono _ _ _ hi (by omega),hb.mono (by omega)⟩⟩
theorem changesC (hS:Nf S) {Inv:Nat→List Hd→Prop} (hI:InvOK Inv) {n0 n b:Nat} {K:Nat→Nat} {h:AH} {p:Nat} {l:List Hd} {s:List Mt} {cs:List AV} {x:Se} (hz:Zs n0 K h p l s) (hx:Sa K h cs x) (hi:Inv n l) (hb:SB b s) (hn:n+20<1000000) (hbb:b<1000000) (hmx:szM x.mt (b+1)):RnC Tryz.prog S 45 [.ptr p 0,.agg cs] h (Act Inv n0 K h p (n+20) (b+1)):=by
 have hx0:=hx
 obtain ⟨v1,d1,v2,d2,rw',rv,rfl,h1,h2,h3,h4,h5,h6,h7,h8⟩:=hx
 have o1:=h1.ln.2.2.2
 have o2:=h2.ln.2.2
 have o4:=h4.ln.2.2.2
 have o5:=h5.ln.2.2
 have o7:=h7.ln.2.2
 have o8:=h8.ln.2.2
 have p1:=oneM o1
 have p2:=oneM o2
 have p4:=oneM o4
 have p5:=oneM o5
 have p7:=oneM o7
 have p8:=oneM o8
 have hrc:=Sa.rc (x:=x) h1 h2 h3
 have hrs:=hrc.sv
 have hxs:=hx0.sv
 refine RnC.enter' Tryz.f45 _ 43 [.tmp 4] (hS.nb _ _ _ (by simp)) bd45 Tryz.func45 rfl rfl rfl ?_
 simp -dsimp only [go_sem,o1,o2,o4,o5,o7,o8,p1,p2,p4,p5,p7,p8]
 generalize hC:([.int .i64 x.kind,.int .i64 x.dev,.int .i64 x.peer,.int .i64 x.num,.str x.folder,.str x.path,.int .i64 x.dkind,.str x.dfolder,.str x.dpath,.str x.rc.path,v1,.int .i64 x.rc.own,.bool x.rc.gone,.int .i64 x.rc.size,.int .i64 x.rc.len,d1,.str x.copy,.str x.cp.path,v2,.int .i64 x.cp.own,.bool x.cp.gone,.int .i64 x.cp.size,.int .i64 x.cp.len,d2,.int .i64 x.ckind,.str x.cfolder,.int .i64 x.cdev,.int .i64 x.mt.own,rw',rv]:List AV)=C at *
 have cl:C.length=30:=by rw [←hC];rfl
 have c1:C[1]? = some (.int .i64 x.dev):=by rw [←hC];rfl
 have cl2:2≤C.length:=by omega
 have cl27:27≤C.length:=by omega
 have c24:(C.drop 24).take 3=[.int .i64 x.ckind,.str x.cfolder,.int .i64 x.cdev]:=by rw [←hC];rfl
 simp -dsimp (disch:=repeat first|rw [nxn]|rw [nxp]|omega) only [go_sem,c1,cl2,bldM1]
 generalize hg1:((h.new (.cells C true false)).new (.cells [.int .i64 0,.nilsl] true false)).put (h.nx+1) (.cells [.int .i64 x.dev,.nilsl] true false)=g1
 have n1:g1.nx=h.nx+2:=by rw [←hg1];rfl
 have f1:Fr h g1:=by rw [←hg1];exact ((Fr.new _ _).news _).put _ (by omega)
 have q1:g1.get h.nx=some (.cells C true false):=by rw [←hg1];exact (AH.get_put_ne (by omega)).trans ((AH.get_new_ne (by simp [AH.new])).trans (AH.get_new_eq rfl))
 have w1:g1.get (h.nx+1)=some (.cells [.int .i64 x.dev,.nilsl] true false):=by rw [←hg1];exact AH.get_put_eq rfl
 clear hg1
 have hz1:=hz.fr f1
 refine callK_of (sharesC hS.toMz x.dev hz1.vs) ?_
 rintro v g2 ⟨rfl,f2⟩
 have n2:=f2.nx
 have hz2:=hz1.fr f2
 have q2:=(f2.get _ (by omega)).trans q1
 have w2:=(f2.get _ (by omega)).trans w1
 have hph:=hz.pn.2.1
 cases his:(findM s x.dev).2
 case false =>
  simp -dsimp only [go_sem,his,w2,q2,c24,cl27]
  have hma:Ma K g2 [.int .i64 x.dev,.nilsl] ⟨x.dev,[]⟩:=⟨.nilsl,rfl,.inl ⟨rfl,rfl⟩,Nat.zero_le _⟩
  refine callK_of (applyC hS x.ckind x.cfolder x.cdev hma (fun j hj=>hz.top j (by omega)) (B:=b) ⟨Nat.zero_le _,fun r hr=>by cases hr⟩ hbb) ?_
  rintro v g3 ⟨⟨m',cs',e,rfl,hm',hs'⟩,f3⟩
  have hzA:=hz2
  have qA:=q2
  have fA:=f1.trans f2
  obtain ⟨rv',rfl,hrv⟩:=hm'
  have orv:=hrv.ln.2.2
  have prv:=oneM orv
  have n3:=f3.nx
  have hz3:=hzA.fr f3
  have q3:=(f3.get _ (by omega)).trans qA
  have ee:=fun g=>eqEr g e 0
  have f34:Fr g3 ((g3.new (.cells [.int .i64 0,.nilsl] true false)).put g3.nx (.cells [.int .i64 m'.own,rv'] true false)):=(Fr.new _ _).put _ (Nat.le_refl _)
  have w34:((g3.new (.cells [.int .i64 0,.nilsl] true false)).put g3.nx (.cells [.int .i64 m'.own,rv'] true false)).get g3.nx=some (.cells [.int .i64 m'.own,rv'] true false):=AH.get_put_eq rfl
  have q34:=(f34.get _ (by omega)).trans q3
  by_cases he:e=0
  ·have hed:decide (e=0)=true:=decide_eq_true he
   simp -dsimp only [go_sem,ee,hed,orv,prv,q3,c1,cl2]
   generalize ((g3.new (.cells [.int .i64 0,.nilsl] true false)).put g3.nx (.cells [.int .i64 m'.own,rv'] true false))=g4 at f34 w34 q34 ⊢
   have hm4:Ma K g4 [.int .i64 m'.own,rv'] m':=⟨rv',rfl,hrv.fr f34⟩
   try simp -dsimp only [go_sem,w34,q34,c1,cl2,orv,prv]
   refine callK_of (shareC hS x.dev (hz3.fr f34) hm4 (hI.g n) hi (by have:=hb.1;omega)) ?_
   rintro v g5 ⟨rfl,KK,l',hzz,zgg,hil⟩
   try simp -dsimp only [go_sem]
   exact ⟨0,KK,l',_,rfl,hzz,(fr_zg ((fA.trans f3).trans f34) K).trans zgg,fun _=>⟨hI.mono _ _ _ hil (by omega),hb.sh x.dev hs'⟩⟩
  ·have hed:decide (e=0)=false:=decide_eq_false he
   simp -dsimp only [go_sem,ee,hed,orv,prv]
   exact ⟨0,K,l,s,rfl,hz3.fr f34,fr_zg ((fA.trans f3).trans f34) K,fun _=>⟨hI.mono _ _ _ hi (by omega),hb.mono (by omega)⟩⟩
 case true =>
  have hlt:=findM_lt his
  have f12:=f1.trans f2
  obtain ⟨hv,sv,hob,hoy,hoz,hsv⟩:=hz.ob
  obtain ⟨y,hy⟩:∃y,s[(findM s x.dev).1]? = some y:=⟨_,List.getElem?_eq_getElem hlt⟩
  obtain ⟨idS,cS,css,ce,A,Bb,rfl,z2,z3,z4,z5,z6,zM,a3,a4,hcS,hid0,hid1,hid2⟩:=hoz.at elMa hy
  obtain ⟨wr,rfl,hwr⟩:=zM
  obtain ⟨lwr,swr,owr⟩:=hwr.ln
  have pwr:=oneM owr
  have ohv:=hoy.one.1
  have phv:=oneM ohv
  have ht2:(css.flatten.drop ((findM s x.dev).1*2)).take 2=[.int .i64 y.own,wr]:=by rw [z4,←z5,List.append_assoc,List.drop_left];rfl
  have hszy:=hb.2 y (List.mem_of_getElem? hy)
  have f2':Fr h (g2.put (h.nx+1) (.cells [.int .i64 y.own,wr] true false)):=f12.put _ (by omega)
  have b1:=(f12.get _ hph).trans hob
  have b2:=(f12.get _ hid1).trans z2
  have hq2:∀o,(g2.put (h.nx+1) o).get h.nx=some (.cells C true false):=fun o=>(AH.get_put_ne (by omega)).trans q2
  simp -dsimp (disch:=repeat first|rw [nxn]|rw [nxp]|omega) only [go_sem,his,b1,hlt,b2,z6,ht2,w2,owr,pwr,ohv,phv,q2,c24,cl27]
  have hmA:Ma K (g2.put (h.nx+1) (.cells [.int .i64 y.own,wr] true false)) [.int .i64 y.own,wr] y:=⟨wr,rfl,hwr.fr f2'⟩
  have hzA:Zs n0 K (g2.put (h.nx+1) (.cells [.int .i64 y.own,wr] true false)) p l s:=hz.fr f2'
  have qA:=hq2 (.cells [.int .i64 y.own,wr] true false)
  have fA:=f2'
  have nA:(g2.put (h.nx+1) (.cells [.int .i64 y.own,wr] true false)).nx=g2.nx:=rfl
  generalize (g2.put (h.nx+1) (.cells [.int .i64 y.own,wr] true false))=gA at hzA qA fA nA hmA ⊢
  refine callK_of (applyC hS x.ckind x.cfolder x.cdev hmA (fun j hj=>hz.top j (by omega)) hszy hbb) ?_
  rintro v g3 ⟨⟨m',cs',e,rfl,hm',hs'⟩,f3⟩
  obtain ⟨rv',rfl,hrv⟩:=hm'
  have orv:=hrv.ln.2.2
  have prv:=oneM orv
  have n3:=f3.nx
  have hz3:=hzA.fr f3
  have q3:=(f3.get _ (by omega)).trans qA
  have ee:=fun g=>eqEr g e 0
  have f34:Fr g3 ((g3.new (.cells [.int .i64 0,.nilsl] true false)).put g3.nx (.cells [.int .i64 m'.own,rv'] true false)):=(Fr.new _ _).put _ (Nat.le_refl _)
  have w34:((g3.new (.cells [.int .i64 0,.nilsl] true false)).put g3.nx (.cells [.int .i64 m'.own,rv'] true false)).get g3.nx=some (.cells [.int .i64 m'.own,rv'] true false):=AH.get_put_eq rfl
  have q34:=(f34.get _ (by omega)).trans q3
  by_cases he:e=0
  ·have hed:decide (e=0)=true:=decide_eq_true he
   simp -dsimp only [go_sem,ee,hed,orv,prv,q3,c1,cl2]
   generalize ((g3.new (.cells [.int .i64 0,.nilsl] true false)).put g3.nx (.cells [.int .i64 m'.own,rv'] true false))=g4 at f34 w34 q34 ⊢
   have hm4:Ma K g4 [.int .i64 m'.own,rv'] m':=⟨rv',rfl,hrv.fr f34⟩
   try simp -dsimp only [go_sem,w34,q34,c1,cl2,orv,prv]
   refine callK_of (shareC hS x.dev (hz3.fr f34) hm4 (hI.g n) hi (by have:=hb.1;omega)) ?_
   rintro v g5 ⟨rfl,KK,l',hzz,zgg,hil⟩
   try simp -dsimp only [go_sem]
   exact ⟨0,KK,l',_,rfl,hzz,(fr_zg ((fA.trans f3).trans f34) K).trans zgg,fun _=>⟨hI.mono _ _ _ hil (by omega),hb.sh x.dev hs'⟩⟩
  ·have hed:decide (e=0)=false:=decide_eq_false he
   simp -dsimp only [go_sem,ee,hed,orv,prv]
   exact ⟨0,K,l,s,rfl,hz3.fr f34,fr_zg ((fA.trans f3).trans f34) K,fun _=>⟨hI.mono _ _ _ hi (by omega),hb.mono (by omega)⟩⟩
end
end Go.Proofs.YtihigekgnnoejaaGreatDoor.mdl
end