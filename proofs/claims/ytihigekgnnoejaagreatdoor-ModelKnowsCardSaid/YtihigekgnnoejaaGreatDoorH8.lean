/- Texts joined: MJe, MJg, MJf. -/
import Derived.Test.YtihigekgnnoejaaGreatDoorH7
set_option maxRecDepth 100000
set_option linter.unusedVariables false
set_option linter.unusedSimpArgs false
set_option maxHeartbeats 64000000
section
namespace Go.Proofs.YtihigekgnnoejaaGreatDoor.mdl
open Go Go.Abs Go.Proofs
section
variable {S : Sums}
theorem kept1C (hS:Nv S) {K:Nat→Nat} {h:AH} {bx:Nat} {cs cr:List AV} {x r:Rc} (hx:Ra K h cs x) (hb:h.get bx=some (.cells cr true false)) (hr:Ra K h cr r) (hn:bx<h.nx):RnC Tryz.prog S 100 [.agg cs,.ptr bx 0] h fun v h'=>(∃b,v=.bool b∧True)∧Fr h h':=by
 obtain ⟨w,d,rfl,hw,hd,_⟩:=hx
 obtain ⟨v,e,rfl,hv,he,_⟩:=hr
 refine RnC.enter' Tryz.f100 _ 35 [.tmp 3] (hS.nv9 _ _ _ (by simp)) bd100 Tryz.func100 rfl rfl rfl ?_
 have ow:=hw.ln.2.2.2
 have od:=hd.ln.2.2
 have ov:=hv.ln.2.2.2
 have oe:=he.ln.2.2
 have mw:=oneM ow
 have md:=oneM od
 simp -dsimp only [go_sem,ow,od,mw,md]
 refine callK_of (pcopiedC hS x.path) ?_
 rintro vv g ⟨⟨a,c,n,ok,rfl⟩,f⟩
 have f1:Fr h g:=(Fr.new _ _).trans f
 have q1:g.get bx=_:=(f1.get _ hn).trans hb
 have q2:g.get h.nx=some (.cells [.str x.path,w,.int .i64 x.own,.bool x.gone,.int .i64 x.size,.int .i64 x.len,d] true false):=(f.get _ (by rw [AH.nx_new];exact Nat.lt_succ_self _)).trans (AH.get_new_eq rfl)
 cases ok
 ·simp -dsimp only [go_sem,q1,q2,ov,oe,ow,od]
  exact ⟨⟨_,rfl,trivial⟩,f1⟩
 have es:=fun g'=>eqSb g' a r.path
 cases he1:decide (a=r.path)
 ·simp -dsimp only [go_sem,q1,q2,ov,oe,ow,od,es,he1]
  exact ⟨⟨_,rfl,trivial⟩,f1⟩
 cases hg1:x.gone
 case true =>
  rw [hg1] at q2
  simp -dsimp only [go_sem,q1,q2,ov,oe,ow,od,es,he1]
  exact ⟨⟨_,rfl,trivial⟩,f1⟩
 rw [hg1] at q2
 simp -dsimp only [go_sem,q1,q2,ov,oe,ow,od,es,he1]
 refine callK_of (blockSameC hS.toMr (a:=x) (b:=r) (hd.fr f1) (he.fr f1)) ?_
 rintro vv g2 ⟨rfl,f2⟩
 try simp -dsimp only [go_sem]
 exact ⟨⟨_,rfl,trivial⟩,f1.trans f2⟩
theorem keptC (hS:Nv S) {K:Nat→Nat} {h:AH} {v:AV} {cr:List AV} {l:List Rc} {r:Rc} (hv:Rs K h v l) (hr:Ra K h cr r):RnC Tryz.prog S 69 [v,.agg cr] h fun v h'=>(∃b,v=.bool b)∧Fr h h':=by
 have hr0:=hr
 obtain ⟨w,d,rfl,hw,hd,_⟩:=hr
 refine RnC.enter' Tryz.f69 _ 8 [.tmp 4] (hS.nv9 _ _ _ (by simp)) bd69 Tryz.func69 rfl rfl rfl ?_
 have ow:=hw.ln.2.2.2
 have od:=hd.ln.2.2
 have mw:=oneM ow
 have md:=oneM od
 obtain ⟨lv,sv,ov⟩:=hv.ln
 simp -dsimp only [go_sem,ow,od,mw,md,ov]
 have f1:Fr h (h.new (.cells [.str r.path,w,.int .i64 r.own,.bool r.gone,.int .i64 r.size,.int .i64 r.len,d] true false)):=Fr.new _ _
 have q1:(h.new (.cells [.str r.path,w,.int .i64 r.own,.bool r.gone,.int .i64 r.size,.int .i64 r.len,d] true false)).get h.nx=some (.cells [.str r.path,w,.int .i64 r.own,.bool r.gone,.int .i64 r.size,.int .i64 r.len,d] true false):=AH.get_new_eq rfl
 have n1:(h.new (.cells [.str r.path,w,.int .i64 r.own,.bool r.gone,.int .i64 r.size,.int .i64 r.len,d] true false)).nx=h.nx+1:=rfl
 generalize h.new (.cells [.str r.path,w,.int .i64 r.own,.bool r.gone,.int .i64 r.size,.int .i64 r.len,d] true false)=g1 at f1 q1 n1 ⊢
 refine callK_of (conC hS.toMo (R:=fun _ _=>True) (hv.fr f1) fun g cs x fg hx _=>kept1C hS (r:=r) hx ((fg.get _ (by omega)).trans q1) ((hr0.fr f1).fr fg) (by have:=fg.nx;omega)) ?_
 rintro v3 g3 ⟨⟨b,rfl,_,_⟩,f3⟩
 try simp -dsimp only [go_sem]
 exact ⟨⟨_,rfl⟩,f1.trans f3⟩
end
section
variable {S : Sums}
theorem has1C (hS:Nv S) {K:Nat→Nat} {h:AH} {bx id off:Nat} {cs ecs:List AV} {x:Rc} {pt:List Nat} (hx:Ra K h cs x) (hb:h.get bx=some (.cells [.ptr id off] true false)) (hn:bx<h.nx) (hi:h.get id=some (.cells ecs true false)) (hin:id<h.nx) (hp:ecs[off+2]? = some (.str pt)):RnC Tryz.prog S 71 [.agg cs,.ptr bx 0] h fun v h'=>(∃b,v=.bool b∧True)∧Fr h h':=by
 obtain ⟨w,d,rfl,hw,hd,_⟩:=hx
 refine RnC.enter' Tryz.f71 _ 11 [.tmp 3] (hS.nb _ _ _ (by simp)) bd71 Tryz.func71 rfl rfl rfl ?_
 have ow:=hw.ln.2.2.2
 have od:=hd.ln.2.2
 have mw:=oneM ow
 have md:=oneM od
 have hl:off+3≤ecs.length:=by
  have:=(List.getElem?_eq_some_iff.1 hp).1
  omega
 simp -dsimp only [go_sem,ow,od,mw,md]
 refine syDraw.keep (fun j=>j=h.nx∨j=bx∨j=id) (by kernel_rfl) (by kernel_rfl) ?_
 have f1:Fr h (h.new (.cells [.str x.path,w,.int .i64 x.own,.bool x.gone,.int .i64 x.size,.int .i64 x.len,d] true false)):=Fr.new _ _
 have q0:=AH.get_new_eq (h:=h) (o:=.cells [.str x.path,w,.int .i64 x.own,.bool x.gone,.int .i64 x.size,.int .i64 x.len,d] true false) rfl
 have q1:=(f1.get _ hn).trans hb
 have q2:=(f1.get _ hin).trans hi
 have es:=fun g' a=>eqSb g' a pt
 simp -dsimp only [go_sem,q0,q1,q2,hp,hl,es,ow,od,true_and,true_or,or_true,implies_true,svi,svb,svs,svp]
 exact ⟨⟨_,rfl,trivial⟩,f1.more _ (by rw [AH.nx_new];omega)⟩
end
theorem Zg.rs {K K':Nat→Nat} {h h':AH} {v:AV} {l:List Rc} (z:Zg K h K' h') (hr:Rs K h v l):Rs K' h' v l:=(hr.col fun j hj hk=>(z.col j hj).trans hk).gk ⟨z.gk.nx,fun j hj hk=>z.gk.get j hj ((z.col j hj).symm.trans hk)⟩
section
variable {S : Sums}
theorem hasC (hS:Nv S) {Inv:Nat→List Hd→Prop} (hI:InvOK Inv) {n0 n b:Nat} {K:Nat→Nat} {h:AH} {p:Nat} {l:List Hd} {s:List Mt} {cs:List AV} {x:Se} (hz:Zs n0 K h p l s) (hx:Sa K h cs x) (hi:Inv n l) (hb:SB b s) (hn:n+20<1000000) (hrl:x.rs.length≤20):RnC Tryz.prog S 47 [.ptr p 0,.agg cs] h (Act Inv n0 K h p (n+20) (b+1)):=by
 have hx0:=hx
 obtain ⟨v1,d1,v2,d2,rw',rv,rfl,h1,h2,h3,h4,h5,h6,h7,h8⟩:=hx
 have o1:=h1.ln.2.2.2
 have o2:=h2.ln.2.2
 have o4:=h4.ln.2.2.2
 have o5:=h5.ln.2.2
 have o7:=h7.ln.2.2
 have o8:=h8.ln.2.2
 have p1:=oneM o1
 have p2:=oneM o2
 have p4:=oneM o4
 have p5:=oneM o5
 have p7:=oneM o7
 have p8:=oneM o8
 have hrc:=Sa.rc (x:=x) h1 h2 h3
 have hrs:=hrc.sv
 have hxs:=hx0.sv
 refine RnC.enter' Tryz.f47 _ 139 [.tmp 4] (hS.nb _ _ _ (by simp)) bd47 Tryz.func47 rfl rfl rfl ?_
 simp (maxSteps:=9^9) -dsimp (disch:=repeat first|rw [nxn]|rw [nxp]|omega) only [go_sem,o1,o2,o4,o5,o7,o8,p1,p2,p4,p5,p7,p8]
 generalize hC:([.int .i64 x.kind,.int .i64 x.dev,.int .i64 x.peer,.int .i64 x.num,.str x.folder,.str x.path,.int .i64 x.dkind,.str x.dfolder,.str x.dpath,.str x.rc.path,v1,.int .i64 x.rc.own,.bool x.rc.gone,.int .i64 x.rc.size,.int .i64 x.rc.len,d1,.str x.copy,.str x.cp.path,v2,.int .i64 x.cp.own,.bool x.cp.gone,.int .i64 x.cp.size,.int .i64 x.cp.len,d2,.int .i64 x.ckind,.str x.cfolder,.int .i64 x.cdev,.int .i64 x.mt.own,rw',rv]:List AV)=C at *
 have cl:C.length=30:=by rw [←hC];rfl
 have c1:C[1]? = some (.int .i64 x.dev):=by rw [←hC];rfl
 have c4':C[4]? = some (.str x.folder):=by rw [←hC];rfl
 have c29:C[29]? = some (rv):=by rw [←hC];rfl
 have cl2:2≤C.length:=by omega
 have cl5:5≤C.length:=by omega
 have cl30:30≤C.length:=by omega
 obtain ⟨lrv,srv,orv⟩:=h8.ln
 simp (maxSteps:=9^9) -dsimp (disch:=repeat first|rw [nxn]|rw [nxp]|omega) only [go_sem,c29,cl30,lrv,o8]
 have f1:Fr h (h.new (.cells C true false)):=Fr.new _ _
 have q1:(h.new (.cells C true false)).get h.nx=some (.cells C true false):=AH.get_new_eq rfl
 have n1:(h.new (.cells C true false)).nx=h.nx+1:=rfl
 generalize h.new (.cells C true false)=g1 at f1 q1 n1 ⊢
 have hz1:=hz.fr f1
 have hx1:=hx0.fr f1
 refine loopK_of (RnL.rounds (Q:=fun ex u=>u.d=[]∧(ex=.exit 0∧u.t.get 0=some (.ptr p 0)∧u.t.get 3=some (.ptr h.nx 0)∧(∃K' l',Zs n0 K' u.h p l' s∧Zg K g1 K' u.h∧Inv (n+x.rs.length) l')∨ex=.ret∧∃K' l' why,Zs n0 K' u.h p l' s∧Zg K g1 K' u.h∧u.t.get 4=some (.int .i64 why)∧why≠0))
  (fun k u=>u.d=[]∧u.t.get 0=some (.ptr p 0)∧u.t.get 3=some (.ptr h.nx 0)∧u.t.get 15=some rv∧u.t.get 16=some (.int .i64 (x.rs.length:Nat))∧∃(i:Nat) (K':Nat→Nat) (l':List Hd),i≤x.rs.length∧u.t.get 17=some (.int .i64 (i:Nat))∧Zs n0 K' u.h p l' s∧Zg K g1 K' u.h∧Inv (n+i) l'∧k=x.rs.length-i) ?_ x.rs.length ?_) ?_
 ·rintro k ⟨tt,g,q⟩ ⟨e2,t0,t3,t15,t16,i,K',l',hi',t17,hzz,zgg,hii,rfl⟩
  dsimp only at e2 t0 t3 t15 t16 t17 hzz zgg
  subst e2
  have kh:K h.nx=0:=hz.top _ (Nat.le_refl _)
  have qh:g.get h.nx=some (.cells C true false):=(zgg.gk.get h.nx (by omega) kh).trans q1
  have hbd:=hI.bd _ _ hii
  have hst:=hI.st _ _ hii
  have ktop:∀j,g.nx≤j→K' j=0:=hzz.top
  have hng:h.nx<g.nx:=by have:=zgg.gk.nx;omega
  by_cases c4:(i:Int)<(x.rs.length:Nat)
  ·have hil:i<x.rs.length:=by omega
   obtain ⟨r,hr⟩:∃r,x.rs[i]? = some r:=⟨_,List.getElem?_eq_getElem hil⟩
   have hrsg:Rs K' g rv x.rs:=zgg.rs (h8.fr f1)
   have hrv0:∃rv',rv'=rv:=⟨rv,rfl⟩
   obtain ⟨id,off,c,ecs,eo,et,rv1,rd1,hrv,hgi,hidl,hle,hE,hw,hd,hp,x0⟩:=hrsg.el hr
   subst hrv
   have ow:=hw.ln.2.2.2
   have od:=hd.ln.2.2
   have pw:=oneM ow
   have pd:=oneM od
   have hrr:Ra K' g [.str r.path,rv1,.int .i64 r.own,.bool r.gone,.int .i64 r.size,.int .i64 r.len,rd1] r:=⟨rv1,rd1,rfl,hw,hd,hp⟩
   have hsk:sameAV 20 (.agg [.int .i64 x.dev,.str x.folder,.str r.path]) (.agg [.int .i64 x.dev,.str x.folder,.str r.path])=true:=by simp [sameAV,Go.Abs.sameL]
   have hrr0:=hrr.col (K':=fun _=>0) fun _ _ _=>rfl
   have hrsg0:=hrsg.col (K':=fun _=>0) fun _ _ _=>rfl
   have qh2:∀o,(g.new o).get h.nx=some (.cells C true false):=fun o=>(AH.get_new_ne (by omega)).trans qh
   have qh3:∀o o2,((g.new o).put g.nx o2).get h.nx=some (.cells C true false):=fun o o2=>(AH.get_put_ne (by omega)).trans (qh2 o)
   simp (maxSteps:=9^9) -dsimp (disch:=repeat first|rw [nxn]|rw [nxp]|omega) only [go_sem,c4,t0,t3,t15,t16,t17,hil,hgi,hle,hE,ow,od,pw,pd,qh,qh3,c1,c4',cl2,cl5,bldK]
   have f3:Fr g ((((g.new (.cells [.str [],.nilsl,.int .i64 0,.bool false,.int .i64 0,.int .i64 0,.nilsl] true false)).put g.nx (.cells [.str r.path,rv1,.int .i64 r.own,.bool r.gone,.int .i64 r.size,.int .i64 r.len,rd1] true false)).new (.cells [.int .i64 0,.str [],.str []] true false)).put (g.nx+1) (.cells [.int .i64 x.dev,.str x.folder,.str r.path] true false)):=((Fr.new _ _).put _ (Nat.le_refl _)).trans ((Fr.new _ _).put _ (by simp [AH.put,AH.new]))
   have w36:(((((g.new (.cells [.str [],.nilsl,.int .i64 0,.bool false,.int .i64 0,.int .i64 0,.nilsl] true false)).put g.nx (.cells [.str r.path,rv1,.int .i64 r.own,.bool r.gone,.int .i64 r.size,.int .i64 r.len,rd1] true false)).new (.cells [.int .i64 0,.str [],.str []] true false)).put (g.nx+1) (.cells [.int .i64 x.dev,.str x.folder,.str r.path] true false))).get g.nx=some (.cells [.str r.path,rv1,.int .i64 r.own,.bool r.gone,.int .i64 r.size,.int .i64 r.len,rd1] true false):=(AH.get_put_ne (by omega)).trans ((AH.get_new_ne (by simp [AH.put,AH.new])).trans (AH.get_put_eq rfl))
   have w37:(((((g.new (.cells [.str [],.nilsl,.int .i64 0,.bool false,.int .i64 0,.int .i64 0,.nilsl] true false)).put g.nx (.cells [.str r.path,rv1,.int .i64 r.own,.bool r.gone,.int .i64 r.size,.int .i64 r.len,rd1] true false)).new (.cells [.int .i64 0,.str [],.str []] true false)).put (g.nx+1) (.cells [.int .i64 x.dev,.str x.folder,.str r.path] true false))).get (g.nx+1)=some (.cells [.int .i64 x.dev,.str x.folder,.str r.path] true false):=AH.get_put_eq rfl
   have n3:(((((g.new (.cells [.str [],.nilsl,.int .i64 0,.bool false,.int .i64 0,.int .i64 0,.nilsl] true false)).put g.nx (.cells [.str r.path,rv1,.int .i64 r.own,.bool r.gone,.int .i64 r.size,.int .i64 r.len,rd1] true false)).new (.cells [.int .i64 0,.str [],.str []] true false)).put (g.nx+1) (.cells [.int .i64 x.dev,.str x.folder,.str r.path] true false))).nx=g.nx+2:=rfl
   generalize ((((g.new (.cells [.str [],.nilsl,.int .i64 0,.bool false,.int .i64 0,.int .i64 0,.nilsl] true false)).put g.nx (.cells [.str r.path,rv1,.int .i64 r.own,.bool r.gone,.int .i64 r.size,.int .i64 r.len,rd1] true false)).new (.cells [.int .i64 0,.str [],.str []] true false)).put (g.nx+1) (.cells [.int .i64 x.dev,.str x.folder,.str r.path] true false))=g3 at f3 w36 w37 n3 ⊢
   refine callK_of (nowC hS.toMk (x.dev,(x.folder,r.path)) (hzz.fr f3).vs.vw (fun _ _=>rfl)) ?_
   rintro v g4 ⟨⟨cn,rfl,hcn⟩,f4⟩
   have n4:=f4.nx
   have w46:=(f4.get g.nx (by omega)).trans w36
   have w47:=(f4.get (g.nx+1) (by omega)).trans w37
   have w4h:=(f4.get h.nx (by omega)).trans ((f3.get _ hng).trans qh)
   generalize hk:nowF l' (x.dev,(x.folder,r.path))=nw at *
   obtain ⟨nv,nd,rfl,hnv,hnd,hnp⟩:=hcn
   have onv:=hnv.ln.2.2.2
   have ond:=hnd.ln.2.2
   have pnv:=oneM onv
   have pnd:=oneM ond
   have hcn:Ra (fun _=>0) g4 [.str nw.1.path,nv,.int .i64 nw.1.own,.bool nw.1.gone,.int .i64 nw.1.size,.int .i64 nw.1.len,nd] nw.1:=⟨nv,nd,rfl,hnv,hnd,hnp⟩
   have f45:Fr g4 ((g4.new (.cells [.str [],.nilsl,.int .i64 0,.bool false,.int .i64 0,.int .i64 0,.nilsl] true false)).put g4.nx (.cells [.str nw.1.path,nv,.int .i64 nw.1.own,.bool nw.1.gone,.int .i64 nw.1.size,.int .i64 nw.1.len,nd] true false)):=(Fr.new _ _).put _ (Nat.le_refl _)
   have w58:((g4.new (.cells [.str [],.nilsl,.int .i64 0,.bool false,.int .i64 0,.int .i64 0,.nilsl] true false)).put g4.nx (.cells [.str nw.1.path,nv,.int .i64 nw.1.own,.bool nw.1.gone,.int .i64 nw.1.size,.int .i64 nw.1.len,nd] true false)).get g4.nx=some (.cells [.str nw.1.path,nv,.int .i64 nw.1.own,.bool nw.1.gone,.int .i64 nw.1.size,.int .i64 nw.1.len,nd] true false):=AH.get_put_eq rfl
   have n5:((g4.new (.cells [.str [],.nilsl,.int .i64 0,.bool false,.int .i64 0,.int .i64 0,.nilsl] true false)).put g4.nx (.cells [.str nw.1.path,nv,.int .i64 nw.1.own,.bool nw.1.gone,.int .i64 nw.1.size,.int .i64 nw.1.len,nd] true false)).nx=g4.nx+1:=rfl
   have w56:=(f45.get g.nx (by omega)).trans w46
   have w57:=(f45.get (g.nx+1) (by omega)).trans w47
   have w5h:=(f45.get h.nx (by omega)).trans w4h
   have F5:=(f3.trans f4).trans f45
   cases his:nw.2
   ·simp (maxSteps:=9^9) -dsimp (disch:=repeat first|rw [nxn]|rw [nxp]|omega) only [go_sem,t0,t3,t15,t16,t17,onv,ond,pnv,pnd,his]
    generalize ((g4.new (.cells [.str [],.nilsl,.int .i64 0,.bool false,.int .i64 0,.int .i64 0,.nilsl] true false)).put g4.nx (.cells [.str nw.1.path,nv,.int .i64 nw.1.own,.bool nw.1.gone,.int .i64 nw.1.size,.int .i64 nw.1.len,nd] true false))=g6 at f45 w58 n5 w56 w57 w5h F5 ⊢
    have w66:=w56
    have w67:=w57
    have w68:=w58
    have w6h:=w5h
    have n6:g4.nx+1≤g6.nx:=by omega
    have hc6:=hcn.fr f45
    refine syDraw.keep (fun j=>j=g.nx∨j=g.nx+1) (by kernel_rfl) (by kernel_rfl) ?_
    have fx:Fr g6 { tr:=g6.tr,nx:=g6.nx+10 }:=(Fr.refl g6).more _ (by omega)
    have F6:=(F5).trans fx
    simp (maxSteps:=9^9) -dsimp (disch:=repeat first|rw [nxn]|rw [nxp]|omega) only [go_sem,w66,w67,t0,ow,od,pw,pd,true_and,true_or,or_true,implies_true,svi,svb,svs,svp,hsk,hrr.sv]
    refine callK_of (takenC hS.toMo (x.dev,(x.folder,r.path)) (hzz.fr F6).vs.vw (hrr0.fr F6)) ?_
    rintro v g7 ⟨⟨bt,rfl,_⟩,f7⟩
    have n7:g6.nx+10≤g7.nx:=f7.nx
    refine ⟨fun j hj=>f7.get j (by show j<g6.nx+10;omega),?_⟩
    have w76:=(f7.get g.nx (by show g.nx<g6.nx+10;omega)).trans w66
    have w77:=(f7.get (g.nx+1) (by show g.nx+1<g6.nx+10;omega)).trans w67
    have w78:=(f7.get g4.nx (by show g4.nx<g6.nx+10;omega)).trans w68
    have w7h:=(f7.get h.nx (by show h.nx<g6.nx+10;omega)).trans w6h
    have F7:=F6.trans f7
    simp (maxSteps:=9^9) -dsimp (disch:=repeat first|rw [nxn]|rw [nxp]|omega) only [go_sem,w76,w77,t0,ow,od,pw,pd,true_and,true_or,or_true,implies_true,svi,svb,svs,svp,hsk,hrr.sv]
    refine callK_of (changedC hS.toMo (x.dev,(x.folder,r.path)) (hzz.fr F7).vs.vw (hrr0.fr F7) (fun _ _=>rfl)) ?_
    rintro v g8 ⟨⟨bc,rfl,_⟩,f8⟩
    have n8:=f8.nx
    refine ⟨fun j hj=>f8.get j (by omega),?_⟩
    have w86:=(f8.get g.nx (by omega)).trans w76
    have w87:=(f8.get (g.nx+1) (by omega)).trans w77
    have w88:=(f8.get g4.nx (by omega)).trans w78
    have w8h:=(f8.get h.nx (by omega)).trans w7h
    have F8:=F7.trans f8
    cases bc
    ·cases bt
     ·simp (maxSteps:=9^9) -dsimp (disch:=repeat first|rw [nxn]|rw [nxp]|omega) only [go_sem,t0,true_and,true_or,or_true,implies_true,svi,svb,svs,svp]
      first | exact ⟨trivial,.inr ⟨trivial,⟨K',l',2,hzz.fr (F8),zgg.trans (fr_zg (F8) K'),rfl,by decide⟩⟩⟩ | exact ⟨trivial,.inr ⟨K',l',2,hzz.fr (F8),zgg.trans (fr_zg (F8) K'),rfl,by decide⟩⟩ | exact .inr ⟨K',l',2,hzz.fr (F8),zgg.trans (fr_zg (F8) K'),rfl,by decide⟩
     simp (maxSteps:=9^9) -dsimp (disch:=repeat first|rw [nxn]|rw [nxp]|omega) only [go_sem,t0,t3,t15,t16,t17,w86,w87,ow,od,pw,pd,true_and,true_or,or_true,implies_true,svi,svb,svs,svp,hsk,hrr.sv]
     refine callK_of (backC hS.toMo (x.dev,(x.folder,r.path)) (hzz.fr (F8)).vs.vw hst (hrr0.fr (F8))) ?_
     rintro v g9 ⟨rfl,f9⟩
     have n9:=f9.nx
     have w96:=(f9.get g.nx (by omega)).trans w86
     have w97:=(f9.get (g.nx+1) (by omega)).trans w87
     have w98:=(f9.get g4.nx (by omega)).trans w88
     have w9h:=(f9.get h.nx (by omega)).trans w8h
     have F9:=(F8).trans f9
     cases hbk:backF l' (x.dev,(x.folder,r.path)) r
     case true =>
      simp (maxSteps:=9^9) -dsimp (disch:=repeat first|rw [nxn]|rw [nxp]|omega) only [go_sem,hbk,t0,t3,t15,t16,t17]
      first | exact ⟨trivial,.inr ⟨trivial,⟨K',l',3,hzz.fr (F9),zgg.trans (fr_zg (F9) K'),rfl,by decide⟩⟩⟩ | exact ⟨trivial,.inr ⟨K',l',3,hzz.fr (F9),zgg.trans (fr_zg (F9) K'),rfl,by decide⟩⟩ | exact .inr ⟨K',l',3,hzz.fr (F9),zgg.trans (fr_zg (F9) K'),rfl,by decide⟩
     simp (maxSteps:=9^9) -dsimp (disch:=repeat first|rw [nxn]|rw [nxp]|omega) only [go_sem,hbk,t0,t3,t15,t16,t17,w96,w97,w98,w9h,ow,od,pw,pd]
     refine callK_of (someC hS.toMo (wb:=false) (x.dev,(x.folder,r.path)) (hzz.fr F9).vs.vw (hrr0.fr F9)) ?_
     rintro v g10 ⟨⟨bs,rfl,_⟩,f10⟩
     have n10:=f10.nx
     have w106:=(f10.get g.nx (by omega)).trans w96
     have w107:=(f10.get (g.nx+1) (by omega)).trans w97
     have w108:=(f10.get g4.nx (by omega)).trans w98
     have w10h:=(f10.get h.nx (by omega)).trans w9h
     have F10:=F9.trans f10
     cases bs
     case true =>
      simp (maxSteps:=9^9) -dsimp (disch:=repeat first|rw [nxn]|rw [nxp]|omega) only [go_sem]
      have hF:=F10
      simp (maxSteps:=9^9) -dsimp (disch:=repeat first|rw [nxn]|rw [nxp]|omega) only [go_sem,t0,t3,t15,t16,t17,w106,w107,ow,od,pw,pd]
      refine callK_of (setC hS.toNf (x.dev,(x.folder,r.path)) (hzz.fr hF) (hrr.fr hF) (by omega) (fun y hy=>by have:=hbd.2 y hy;omega)) ?_
      rintro v gS ⟨rfl,KF,hzF,zgF⟩
      try simp (maxSteps:=9^9) -dsimp (disch:=repeat first|rw [nxn]|rw [nxp]|omega) only [go_sem,t0,t3,t15,t16,t17]
      exact ⟨x.rs.length-(i+1),by omega,trivial,trivial,trivial,trivial,trivial,i+1,KF,_,by omega,rfl,hzF,(zgg.trans (fr_zg hF K')).trans zgF,hI.set (n+i) _ _ _ hii rfl hbk,rfl⟩
     simp (maxSteps:=9^9) -dsimp (disch:=repeat first|rw [nxn]|rw [nxp]|omega) only [go_sem,t0,t3,t15,t16,t17,w10h,w108,c29,cl30,x0,onv,ond,pnv,pnd]
     refine callK_of (keptC hS (hrsg0.fr F10) (hc6.fr ((((fx.trans f7).trans f8).trans f9).trans f10))) ?_
     rintro v g11 ⟨⟨bk,rfl⟩,f11⟩
     have n11:=f11.nx
     have w116:=(f11.get g.nx (by omega)).trans w106
     have w117:=(f11.get (g.nx+1) (by omega)).trans w107
     have F11:=F10.trans f11
     cases bk
     ·simp (maxSteps:=9^9) -dsimp (disch:=repeat first|rw [nxn]|rw [nxp]|omega) only [go_sem,t0,t3,t15,t16,t17]
      first | exact ⟨trivial,.inr ⟨trivial,⟨K',l',4,hzz.fr (F11),zgg.trans (fr_zg (F11) K'),rfl,by decide⟩⟩⟩ | exact ⟨trivial,.inr ⟨K',l',4,hzz.fr (F11),zgg.trans (fr_zg (F11) K'),rfl,by decide⟩⟩ | exact .inr ⟨K',l',4,hzz.fr (F11),zgg.trans (fr_zg (F11) K'),rfl,by decide⟩
     ·simp (maxSteps:=9^9) -dsimp (disch:=repeat first|rw [nxn]|rw [nxp]|omega) only [go_sem]
      have hF:=F11
      simp (maxSteps:=9^9) -dsimp (disch:=repeat first|rw [nxn]|rw [nxp]|omega) only [go_sem,t0,t3,t15,t16,t17,w116,w117,ow,od,pw,pd]
      refine callK_of (setC hS.toNf (x.dev,(x.folder,r.path)) (hzz.fr hF) (hrr.fr hF) (by omega) (fun y hy=>by have:=hbd.2 y hy;omega)) ?_
      rintro v gS ⟨rfl,KF,hzF,zgF⟩
      try simp (maxSteps:=9^9) -dsimp (disch:=repeat first|rw [nxn]|rw [nxp]|omega) only [go_sem,t0,t3,t15,t16,t17]
      exact ⟨x.rs.length-(i+1),by omega,trivial,trivial,trivial,trivial,trivial,i+1,KF,_,by omega,rfl,hzF,(zgg.trans (fr_zg hF K')).trans zgF,hI.set (n+i) _ _ _ hii rfl hbk,rfl⟩
    ·simp (maxSteps:=9^9) -dsimp (disch:=repeat first|rw [nxn]|rw [nxp]|omega) only [go_sem,t0,t3,t15,t16,t17,w86,w87,ow,od,pw,pd,true_and,true_or,or_true,implies_true,svi,svb,svs,svp,hsk,hrr.sv]
     refine callK_of (backC hS.toMo (x.dev,(x.folder,r.path)) (hzz.fr (F8)).vs.vw hst (hrr0.fr (F8))) ?_
     rintro v g9 ⟨rfl,f9⟩
     have n9:=f9.nx
     have w96:=(f9.get g.nx (by omega)).trans w86
     have w97:=(f9.get (g.nx+1) (by omega)).trans w87
     have w98:=(f9.get g4.nx (by omega)).trans w88
     have w9h:=(f9.get h.nx (by omega)).trans w8h
     have F9:=(F8).trans f9
     cases hbk:backF l' (x.dev,(x.folder,r.path)) r
     case true =>
      simp (maxSteps:=9^9) -dsimp (disch:=repeat first|rw [nxn]|rw [nxp]|omega) only [go_sem,hbk,t0,t3,t15,t16,t17]
      first | exact ⟨trivial,.inr ⟨trivial,⟨K',l',3,hzz.fr (F9),zgg.trans (fr_zg (F9) K'),rfl,by decide⟩⟩⟩ | exact ⟨trivial,.inr ⟨K',l',3,hzz.fr (F9),zgg.trans (fr_zg (F9) K'),rfl,by decide⟩⟩ | exact .inr ⟨K',l',3,hzz.fr (F9),zgg.trans (fr_zg (F9) K'),rfl,by decide⟩
     simp (maxSteps:=9^9) -dsimp (disch:=repeat first|rw [nxn]|rw [nxp]|omega) only [go_sem,hbk,t0,t3,t15,t16,t17,w96,w97,w98,w9h,ow,od,pw,pd]
     have hF:=F9
     try simp (maxSteps:=9^9) -dsimp (disch:=repeat first|rw [nxn]|rw [nxp]|omega) only [go_sem,t0,t3,t15,t16,t17,w96,w97,ow,od,pw,pd]
     refine callK_of (setC hS.toNf (x.dev,(x.folder,r.path)) (hzz.fr hF) (hrr.fr hF) (by omega) (fun y hy=>by have:=hbd.2 y hy;omega)) ?_
     rintro v gS ⟨rfl,KF,hzF,zgF⟩
     try simp (maxSteps:=9^9) -dsimp (disch:=repeat first|rw [nxn]|rw [nxp]|omega) only [go_sem,t0,t3,t15,t16,t17]
     exact ⟨x.rs.length-(i+1),by omega,trivial,trivial,trivial,trivial,trivial,i+1,KF,_,by omega,rfl,hzF,(zgg.trans (fr_zg hF K')).trans zgF,hI.set (n+i) _ _ _ hii rfl hbk,rfl⟩
   ·simp (maxSteps:=9^9) -dsimp (disch:=repeat first|rw [nxn]|rw [nxp]|omega) only [go_sem,t0,t3,t15,t16,t17,onv,ond,pnv,pnd,his,w56,w58,ow,od,pw,pd]
    generalize ((g4.new (.cells [.str [],.nilsl,.int .i64 0,.bool false,.int .i64 0,.int .i64 0,.nilsl] true false)).put g4.nx (.cells [.str nw.1.path,nv,.int .i64 nw.1.own,.bool nw.1.gone,.int .i64 nw.1.size,.int .i64 nw.1.len,nd] true false))=g5 at f45 w58 n5 w56 w57 w5h F5 ⊢
    refine callK_of (recSameC hS.toMr (hcn.fr f45) (hrr0.fr F5)) ?_
    rintro v g6 ⟨rfl,f6⟩
    have n6:=f6.nx
    cases hsm:sameR nw.1 r
    ·simp (maxSteps:=9^9) -dsimp (disch:=repeat first|rw [nxn]|rw [nxp]|omega) only [go_sem,hsm]
     have w66:=(f6.get g.nx (by omega)).trans w56
     have w67:=(f6.get (g.nx+1) (by omega)).trans w57
     have w68:=(f6.get g4.nx (by omega)).trans w58
     have w6h:=(f6.get h.nx (by omega)).trans w5h
     have hc6:=(hcn.fr f45).fr f6
     refine syDraw.keep (fun j=>j=g.nx∨j=g.nx+1) (by kernel_rfl) (by kernel_rfl) ?_
     have fx:Fr g6 { tr:=g6.tr,nx:=g6.nx+10 }:=(Fr.refl g6).more _ (by omega)
     have F6:=(F5.trans f6).trans fx
     simp (maxSteps:=9^9) -dsimp (disch:=repeat first|rw [nxn]|rw [nxp]|omega) only [go_sem,w66,w67,t0,ow,od,pw,pd,true_and,true_or,or_true,implies_true,svi,svb,svs,svp,hsk,hrr.sv]
     refine callK_of (takenC hS.toMo (x.dev,(x.folder,r.path)) (hzz.fr F6).vs.vw (hrr0.fr F6)) ?_
     rintro v g7 ⟨⟨bt,rfl,_⟩,f7⟩
     have n7:g6.nx+10≤g7.nx:=f7.nx
     refine ⟨fun j hj=>f7.get j (by show j<g6.nx+10;omega),?_⟩
     have w76:=(f7.get g.nx (by show g.nx<g6.nx+10;omega)).trans w66
     have w77:=(f7.get (g.nx+1) (by show g.nx+1<g6.nx+10;omega)).trans w67
     have w78:=(f7.get g4.nx (by show g4.nx<g6.nx+10;omega)).trans w68
     have w7h:=(f7.get h.nx (by show h.nx<g6.nx+10;omega)).trans w6h
     have F7:=F6.trans f7
     simp (maxSteps:=9^9) -dsimp (disch:=repeat first|rw [nxn]|rw [nxp]|omega) only [go_sem,w76,w77,t0,ow,od,pw,pd,true_and,true_or,or_true,implies_true,svi,svb,svs,svp,hsk,hrr.sv]
     refine callK_of (changedC hS.toMo (x.dev,(x.folder,r.path)) (hzz.fr F7).vs.vw (hrr0.fr F7) (fun _ _=>rfl)) ?_
     rintro v g8 ⟨⟨bc,rfl,_⟩,f8⟩
     have n8:=f8.nx
     refine ⟨fun j hj=>f8.get j (by omega),?_⟩
     have w86:=(f8.get g.nx (by omega)).trans w76
     have w87:=(f8.get (g.nx+1) (by omega)).trans w77
     have w88:=(f8.get g4.nx (by omega)).trans w78
     have w8h:=(f8.get h.nx (by omega)).trans w7h
     have F8:=F7.trans f8
     cases bc
     ·cases bt
      ·simp (maxSteps:=9^9) -dsimp (disch:=repeat first|rw [nxn]|rw [nxp]|omega) only [go_sem,t0,true_and,true_or,or_true,implies_true,svi,svb,svs,svp]
       first | exact ⟨trivial,.inr ⟨trivial,⟨K',l',2,hzz.fr (F8),zgg.trans (fr_zg (F8) K'),rfl,by decide⟩⟩⟩ | exact ⟨trivial,.inr ⟨K',l',2,hzz.fr (F8),zgg.trans (fr_zg (F8) K'),rfl,by decide⟩⟩ | exact .inr ⟨K',l',2,hzz.fr (F8),zgg.trans (fr_zg (F8) K'),rfl,by decide⟩
      simp (maxSteps:=9^9) -dsimp (disch:=repeat first|rw [nxn]|rw [nxp]|omega) only [go_sem,t0,t3,t15,t16,t17,w86,w87,ow,od,pw,pd,true_and,true_or,or_true,implies_true,svi,svb,svs,svp,hsk,hrr.sv]
      refine callK_of (backC hS.toMo (x.dev,(x.folder,r.path)) (hzz.fr (F8)).vs.vw hst (hrr0.fr (F8))) ?_
      rintro v g9 ⟨rfl,f9⟩
      have n9:=f9.nx
      have w96:=(f9.get g.nx (by omega)).trans w86
      have w97:=(f9.get (g.nx+1) (by omega)).trans w87
      have w98:=(f9.get g4.nx (by omega)).trans w88
      have w9h:=(f9.get h.nx (by omega)).trans w8h
      have F9:=(F8).trans f9
      cases hbk:backF l' (x.dev,(x.folder,r.path)) r
      case true =>
       simp (maxSteps:=9^9) -dsimp (disch:=repeat first|rw [nxn]|rw [nxp]|omega) only [go_sem,hbk,t0,t3,t15,t16,t17]
       first | exact ⟨trivial,.inr ⟨trivial,⟨K',l',3,hzz.fr (F9),zgg.trans (fr_zg (F9) K'),rfl,by decide⟩⟩⟩ | exact ⟨trivial,.inr ⟨K',l',3,hzz.fr (F9),zgg.trans (fr_zg (F9) K'),rfl,by decide⟩⟩ | exact .inr ⟨K',l',3,hzz.fr (F9),zgg.trans (fr_zg (F9) K'),rfl,by decide⟩
      simp (maxSteps:=9^9) -dsimp (disch:=repeat first|rw [nxn]|rw [nxp]|omega) only [go_sem,hbk,t0,t3,t15,t16,t17,w96,w97,w98,w9h,ow,od,pw,pd]
      refine callK_of (someC hS.toMo (wb:=false) (x.dev,(x.folder,r.path)) (hzz.fr F9).vs.vw (hrr0.fr F9)) ?_
      rintro v g10 ⟨⟨bs,rfl,_⟩,f10⟩
      have n10:=f10.nx
      have w106:=(f10.get g.nx (by omega)).trans w96
      have w107:=(f10.get (g.nx+1) (by omega)).trans w97
      have w108:=(f10.get g4.nx (by omega)).trans w98
      have w10h:=(f10.get h.nx (by omega)).trans w9h
      have F10:=F9.trans f10
      cases bs
      case true =>
       simp (maxSteps:=9^9) -dsimp (disch:=repeat first|rw [nxn]|rw [nxp]|omega) only [go_sem]
       have hF:=F10
       simp (maxSteps:=9^9) -dsimp (disch:=repeat first|rw [nxn]|rw [nxp]|omega) only [go_sem,t0,t3,t15,t16,t17,w106,w107,ow,od,pw,pd]
       refine callK_of (setC hS.toNf (x.dev,(x.folder,r.path)) (hzz.fr hF) (hrr.fr hF) (by omega) (fun y hy=>by have:=hbd.2 y hy;omega)) ?_
       rintro v gS ⟨rfl,KF,hzF,zgF⟩
       try simp (maxSteps:=9^9) -dsimp (disch:=repeat first|rw [nxn]|rw [nxp]|omega) only [go_sem,t0,t3,t15,t16,t17]
       exact ⟨x.rs.length-(i+1),by omega,trivial,trivial,trivial,trivial,trivial,i+1,KF,_,by omega,rfl,hzF,(zgg.trans (fr_zg hF K')).trans zgF,hI.set (n+i) _ _ _ hii rfl hbk,rfl⟩
      simp (maxSteps:=9^9) -dsimp (disch:=repeat first|rw [nxn]|rw [nxp]|omega) only [go_sem,t0,t3,t15,t16,t17,w10h,w108,c29,cl30,x0,onv,ond,pnv,pnd]
      refine callK_of (keptC hS (hrsg0.fr F10) (hc6.fr ((((fx.trans f7).trans f8).trans f9).trans f10))) ?_
      rintro v g11 ⟨⟨bk,rfl⟩,f11⟩
      have n11:=f11.nx
      have w116:=(f11.get g.nx (by omega)).trans w106
      have w117:=(f11.get (g.nx+1) (by omega)).trans w107
      have F11:=F10.trans f11
      cases bk
      ·simp (maxSteps:=9^9) -dsimp (disch:=repeat first|rw [nxn]|rw [nxp]|omega) only [go_sem,t0,t3,t15,t16,t17]
       first | exact ⟨trivial,.inr ⟨trivial,⟨K',l',4,hzz.fr (F11),zgg.trans (fr_zg (F11) K'),rfl,by decide⟩⟩⟩ | exact ⟨trivial,.inr ⟨K',l',4,hzz.fr (F11),zgg.trans (fr_zg (F11) K'),rfl,by decide⟩⟩ | exact .inr ⟨K',l',4,hzz.fr (F11),zgg.trans (fr_zg (F11) K'),rfl,by decide⟩
      ·simp (maxSteps:=9^9) -dsimp (disch:=repeat first|rw [nxn]|rw [nxp]|omega) only [go_sem]
       have hF:=F11
       simp (maxSteps:=9^9) -dsimp (disch:=repeat first|rw [nxn]|rw [nxp]|omega) only [go_sem,t0,t3,t15,t16,t17,w116,w117,ow,od,pw,pd]
       refine callK_of (setC hS.toNf (x.dev,(x.folder,r.path)) (hzz.fr hF) (hrr.fr hF) (by omega) (fun y hy=>by have:=hbd.2 y hy;omega)) ?_
       rintro v gS ⟨rfl,KF,hzF,zgF⟩
       try simp (maxSteps:=9^9) -dsimp (disch:=repeat first|rw [nxn]|rw [nxp]|omega) only [go_sem,t0,t3,t15,t16,t17]
       exact ⟨x.rs.length-(i+1),by omega,trivial,trivial,trivial,trivial,trivial,i+1,KF,_,by omega,rfl,hzF,(zgg.trans (fr_zg hF K')).trans zgF,hI.set (n+i) _ _ _ hii rfl hbk,rfl⟩
     ·simp (maxSteps:=9^9) -dsimp (disch:=repeat first|rw [nxn]|rw [nxp]|omega) only [go_sem,t0,t3,t15,t16,t17,w86,w87,ow,od,pw,pd,true_and,true_or,or_true,implies_true,svi,svb,svs,svp,hsk,hrr.sv]
      refine callK_of (backC hS.toMo (x.dev,(x.folder,r.path)) (hzz.fr (F8)).vs.vw hst (hrr0.fr (F8))) ?_
      rintro v g9 ⟨rfl,f9⟩
      have n9:=f9.nx
      have w96:=(f9.get g.nx (by omega)).trans w86
      have w97:=(f9.get (g.nx+1) (by omega)).trans w87
      have w98:=(f9.get g4.nx (by omega)).trans w88
      have w9h:=(f9.get h.nx (by omega)).trans w8h
      have F9:=(F8).trans f9
      cases hbk:backF l' (x.dev,(x.folder,r.path)) r
      case true =>
       simp (maxSteps:=9^9) -dsimp (disch:=repeat first|rw [nxn]|rw [nxp]|omega) only [go_sem,hbk,t0,t3,t15,t16,t17]
       first | exact ⟨trivial,.inr ⟨trivial,⟨K',l',3,hzz.fr (F9),zgg.trans (fr_zg (F9) K'),rfl,by decide⟩⟩⟩ | exact ⟨trivial,.inr ⟨K',l',3,hzz.fr (F9),zgg.trans (fr_zg (F9) K'),rfl,by decide⟩⟩ | exact .inr ⟨K',l',3,hzz.fr (F9),zgg.trans (fr_zg (F9) K'),rfl,by decide⟩
      simp (maxSteps:=9^9) -dsimp (disch:=repeat first|rw [nxn]|rw [nxp]|omega) only [go_sem,hbk,t0,t3,t15,t16,t17,w96,w97,w98,w9h,ow,od,pw,pd]
      have hF:=F9
      try simp (maxSteps:=9^9) -dsimp (disch:=repeat first|rw [nxn]|rw [nxp]|omega) only [go_sem,t0,t3,t15,t16,t17,w96,w97,ow,od,pw,pd]
      refine callK_of (setC hS.toNf (x.dev,(x.folder,r.path)) (hzz.fr hF) (hrr.fr hF) (by omega) (fun y hy=>by have:=hbd.2 y hy;omega)) ?_
      rintro v gS ⟨rfl,KF,hzF,zgF⟩
      try simp (maxSteps:=9^9) -dsimp (disch:=repeat first|rw [nxn]|rw [nxp]|omega) only [go_sem,t0,t3,t15,t16,t17]
      exact ⟨x.rs.length-(i+1),by omega,trivial,trivial,trivial,trivial,trivial,i+1,KF,_,by omega,rfl,hzF,(zgg.trans (fr_zg hF K')).trans zgF,hI.set (n+i) _ _ _ hii rfl hbk,rfl⟩
    ·simp (maxSteps:=9^9) -dsimp (disch:=repeat first|rw [nxn]|rw [nxp]|omega) only [go_sem,hsm,t0,t3,t15,t16,t17]
     exact ⟨x.rs.length-(i+1),by omega,trivial,trivial,trivial,trivial,trivial,i+1,K',l',by omega,rfl,hzz.fr (F5.trans f6),zgg.trans (fr_zg (F5.trans f6) K'),hI.mono _ _ _ hii (by omega),rfl⟩
  ·obtain rfl:i=x.rs.length:=by omega
   simp (maxSteps:=9^9) -dsimp (disch:=repeat first|rw [nxn]|rw [nxp]|omega) only [go_sem,c4,t0,t3,t16,t17]
   exact ⟨trivial,.inl ⟨trivial,trivial,trivial,K',l',hzz,zgg,hii⟩⟩
 ·simp (maxSteps:=9^9) -dsimp (disch:=repeat first|rw [nxn]|rw [nxp]|omega) only [go_sem]
  exact ⟨trivial,trivial,trivial,trivial,trivial,0,K,l,Nat.zero_le _,rfl,hz1,fr_zg (Fr.refl _) K,hi,rfl⟩
 ·rintro ex ⟨tt,g,q⟩ ⟨e2,⟨rfl,t0,t3,K',l',hzz,zgg,hii⟩ | ⟨rfl,K',l',why,hzz,zgg,t4,hw⟩⟩
  rotate_left
  ·dsimp only at e2 t4 hzz zgg
   subst e2
   simp (maxSteps:=9^9) -dsimp (disch:=repeat first|rw [nxn]|rw [nxp]|omega) only [go_sem,t4]
   exact ⟨why,K',l',s,rfl,hzz,(fr_zg f1 K).trans zgg,fun hh=>absurd hh hw⟩
  dsimp only at e2 t0 t3 hzz zgg
  subst e2
  obtain ⟨hv,sv,hob,_,hh,_⟩:=hzz.vs
  obtain ⟨lhv,_,ohv⟩:=hh.ln
  have kh:K h.nx=0:=hz.top _ (Nat.le_refl _)
  have ng1:=zgg.gk.nx
  have kh':K' h.nx=0:=(zgg.col h.nx (by omega)).trans kh
  have qh:g.get h.nx=some (.cells C true false):=(zgg.gk.get h.nx (by omega) kh).trans q1
  have hlb:l'.length≤1000000:=by have:=(hI.bd _ _ hii).1;omega
  simp (maxSteps:=9^9) -dsimp (disch:=repeat first|rw [nxn]|rw [nxp]|omega) only [go_sem,t0,hob,ohv,lhv]
  refine loopK_of (RnL.rounds (Q:=fun ex u=>u.d=[]∧(ex=.exit 3∧(∃l2,Zs n0 K' u.h p l2 s∧Gk K' g u.h∧Inv (n+x.rs.length) l2)∨ex=.ret∧∃l2,Zs n0 K' u.h p l2 s∧Gk K' g u.h∧u.t.get 4=some (.int .i64 5)))
   (fun k u=>u.d=[]∧u.t.get 0=some (.ptr p 0)∧u.t.get 3=some (.ptr h.nx 0)∧u.t.get 87=some (.int .i64 (l'.length:Nat))∧∃(i:Nat) (l2:List Hd),i≤l'.length∧l2.length=l'.length∧u.t.get 88=some (.int .i64 (i:Nat))∧Zs n0 K' u.h p l2 s∧Gk K' g u.h∧Inv (n+x.rs.length) l2∧k=l'.length-i) ?_ l'.length ?_) ?_
  ·rintro k ⟨tt,g2,q⟩ ⟨e2,t0,t3,t87,i,l2,hi2,hl2,t88,hz2,gk2,hi3,rfl⟩
   dsimp only at e2 t0 t3 t87 t88 hz2 gk2
   subst e2
   by_cases c4:(i:Int)<(l'.length:Nat)
   ·have hil:i<l2.length:=by omega
    obtain ⟨y,hy⟩:∃y,l2[i]? = some y:=⟨_,List.getElem?_eq_getElem hil⟩
    obtain ⟨id,c,css,sv',nv,nd,pv,a1,a2,a3,a4,a5,a6,a7,a8,a9,a10,a11,a12,a13,a14,a15,upd⟩:=hz2.at hy
    have ng2:=gk2.nx
    have qh2:=(gk2.get h.nx (by omega) kh').trans qh
    have y0:=a6 0 (by decide)
    have y1:=a6 1 (by decide)
    have y2:=a6 2 (by decide)
    have y3:=a6 3 (by decide)
    have y6:=a6 6 (by decide)
    simp only [Nat.add_zero,List.getElem?_cons_zero,List.getElem?_cons_succ] at y0 y1 y2 y3 y6
    have hp2:p<g2.nx:=hz2.pn.2.1
    simp (maxSteps:=9^9) -dsimp (disch:=repeat first|rw [nxn]|rw [nxp]|omega) only [go_sem,c4,t0,t3,t87,t88,a1,hil,a2]
    have fA:Fr g2 ((g2.new (.cells [.nilptr] true false)).put g2.nx (.cells [.ptr id (i*12)] true false)):=(Fr.new _ _).put _ (Nat.le_refl _)
    have w1:((g2.new (.cells [.nilptr] true false)).put g2.nx (.cells [.ptr id (i*12)] true false)).get g2.nx=some (.cells [.ptr id (i*12)] true false):=AH.get_put_eq rfl
    have w2:=(fA.get id a15).trans a2
    have w3:=(fA.get h.nx (by omega)).trans qh2
    have nA:((g2.new (.cells [.nilptr] true false)).put g2.nx (.cells [.ptr id (i*12)] true false)).nx=g2.nx+1:=rfl
    generalize (g2.new (.cells [.nilptr] true false)).put g2.nx (.cells [.ptr id (i*12)] true false)=gA at fA w1 w2 w3 nA ⊢
    have l1:i*12+1≤css.flatten.length:=by omega
    have l2':i*12+1+1≤css.flatten.length:=by omega
    have l4:i*12+3+1≤css.flatten.length:=by omega
    refine syDraw.keep (fun j=>j=g2.nx∨j=id∨j=h.nx) (by kernel_rfl) (by kernel_rfl) ?_
    have fx:Fr g2 { tr:=gA.tr,nx:=gA.nx+30 }:=fA.trans ((Fr.refl gA).more _ (by omega))
    have nf:=fun g'=>neSb g' y.folder x.folder
    by_cases k1:y.dev=x.dev
    case neg =>
     simp (maxSteps:=9^9) -dsimp (disch:=repeat first|rw [nxn]|rw [nxp]|omega) only [go_sem,w1,w2,w3,y0,y1,y3,l1,l2',l4,c1,c4',c29,cl2,cl5,cl30,k1,t0,t3,t87,t88,true_and,true_or,or_true,implies_true,svi,svb,svs,svp]
     first | exact ⟨l'.length-(i+1),by omega,trivial,trivial,trivial,trivial,i+1,l2,by omega,hl2,rfl,hz2.fr fx,gk2.trans (Fr.gk fx K'),hi3,rfl⟩ | exact ⟨l'.length-(i+1),by omega,i+1,l2,by omega,hl2,rfl,hz2.fr fx,gk2.trans (Fr.gk fx K'),hi3,rfl⟩
    by_cases k2:y.folder=x.folder
    case neg =>
     have d2:decide (y.folder=x.folder)=false:=decide_eq_false k2
     simp (maxSteps:=9^9) -dsimp (disch:=repeat first|rw [nxn]|rw [nxp]|omega) only [go_sem,w1,w2,w3,y0,y1,y3,l1,l2',l4,c1,c4',c29,cl2,cl5,cl30,k1,nf,d2,t0,t3,t87,t88,true_and,true_or,or_true,implies_true,svi,svb,svs,svp]
     first | exact ⟨l'.length-(i+1),by omega,trivial,trivial,trivial,trivial,i+1,l2,by omega,hl2,rfl,hz2.fr fx,gk2.trans (Fr.gk fx K'),hi3,rfl⟩ | exact ⟨l'.length-(i+1),by omega,i+1,l2,by omega,hl2,rfl,hz2.fr fx,gk2.trans (Fr.gk fx K'),hi3,rfl⟩
    have d2:decide (y.folder=x.folder)=true:=decide_eq_true k2
    by_cases k3:y.now.path=[]
    ·have ep:∀g',binA Tryz.prog g' .eql 9 (.str y.now.path) (.str (bytesOf { data:=#[] }))=some (.bool true):=fun g'=>by
      rw [show (bytesOf { data:=#[] })=[] from rfl,eqSb,decide_eq_true k3]
     simp (maxSteps:=9^9) -dsimp (disch:=repeat first|rw [nxn]|rw [nxp]|omega) only [go_sem,w1,w2,w3,y0,y1,y3,l1,l2',l4,c1,c4',c29,cl2,cl5,cl30,k1,nf,d2,ep,t0,t3,t87,t88,true_and,true_or,or_true,implies_true,svi,svb,svs,svp]
     first | exact ⟨l'.length-(i+1),by omega,trivial,trivial,trivial,trivial,i+1,l2,by omega,hl2,rfl,hz2.fr fx,gk2.trans (Fr.gk fx K'),hi3,rfl⟩ | exact ⟨l'.length-(i+1),by omega,i+1,l2,by omega,hl2,rfl,hz2.fr fx,gk2.trans (Fr.gk fx K'),hi3,rfl⟩
    have ep:∀g',binA Tryz.prog g' .eql 9 (.str y.now.path) (.str (bytesOf { data:=#[] }))=some (.bool false):=fun g'=>by
     rw [show (bytesOf { data:=#[] })=[] from rfl,eqSb,decide_eq_false k3]
    simp (maxSteps:=9^9) -dsimp (disch:=repeat first|rw [nxn]|rw [nxp]|omega) only [go_sem,w1,w2,w3,y0,y1,y3,l1,l2',l4,c1,c4',c29,cl2,cl5,cl30,k1,nf,d2,ep,t0,t3,t87,t88,o8,srv,true_and,true_or,or_true,implies_true,svi,svb,svs,svp]
    have hrs2:Rs K' g2 rv x.rs:=(zgg.rs (h8.fr f1)).gk gk2
    refine callK_of (conC hS.toMo (R:=fun _ _=>True) (hrs2.fr fx) fun g' cs r fg hx _=>has1C hS (bx:=g2.nx) (id:=id) (off:=i*12) hx ((fg.get _ (by show g2.nx<gA.nx+30;omega)).trans w1) (by have:=fg.nx;have:gA.nx+30≤g'.nx:=this;omega) ((fg.get _ (by show id<gA.nx+30;omega)).trans w2) (by have:=fg.nx;have:gA.nx+30≤g'.nx:=this;omega) y2) ?_
    rintro v g7 ⟨⟨bb,rfl,_,_⟩,f7⟩
    have n7:gA.nx+30≤g7.nx:=f7.nx
    refine ⟨fun j hj=>f7.get j (by show j<gA.nx+30;omega),?_⟩
    have F7:=fx.trans f7
    have w71:=(f7.get g2.nx (by show g2.nx<gA.nx+30;omega)).trans w1
    cases bb
    case true =>
     simp (maxSteps:=9^9) -dsimp (disch:=repeat first|rw [nxn]|rw [nxp]|omega) only [go_sem,t0,t3,t87,t88,true_and,true_or,or_true,implies_true,svi,svb,svs,svp]
     first | exact ⟨l'.length-(i+1),by omega,trivial,trivial,trivial,trivial,i+1,l2,by omega,hl2,rfl,hz2.fr F7,gk2.trans (Fr.gk F7 K'),hi3,rfl⟩ | exact ⟨l'.length-(i+1),by omega,i+1,l2,by omega,hl2,rfl,hz2.fr F7,gk2.trans (Fr.gk F7 K'),hi3,rfl⟩
    obtain ⟨id',c',css',sv2,nv2,nd2,pv2,b1,b2,b3,b4,b5,b6,b7,b8,b9,b10,b11,b12,b13,b14,b15,upd'⟩:=(hz2.fr F7).at hy
    rw [F7.get _ hp2,a1] at b1
    cases b1
    have y6':=b6 6 (by decide)
    simp only [List.getElem?_cons_zero,List.getElem?_cons_succ] at y6'
    have l7:i*12+6+1≤css'.flatten.length:=by omega
    have l10:i*12+3+7≤css'.flatten.length:=by omega
    cases hyg:y.now.gone
    case false =>
     rw [hyg] at y6'
     simp (maxSteps:=9^9) -dsimp (disch:=repeat first|rw [nxn]|rw [nxp]|omega) only [go_sem,t0,t3,t87,t88,w71,b2,y6',l7,Nat.add_assoc,true_and,true_or,or_true,implies_true,svi,svb,svs,svp]
     exact .inr ⟨l2,hz2.fr F7,gk2.trans (F7.gk K'),trivial⟩
    have FP:List.take (i*12+3) css'.flatten++[.str [],.nilsl,.int .i64 0,.bool false,.int .i64 0,.int .i64 0,.nilsl]++List.drop (i*12+3+7) css'.flatten=(css'.set i (putCells [.int .i64 y.dev,.str y.folder,.str y.path,.str y.now.path,nv2,.int .i64 y.now.own,.bool y.now.gone,.int .i64 y.now.size,.int .i64 y.now.len,nd2,pv2,.int .i64 (y.start:Nat)] 3 [.str [],.nilsl,.int .i64 0,.bool false,.int .i64 0,.int .i64 0,.nilsl])).flatten:=flz_put b4 b5 (by decide)
    rw [hyg] at y6'
    simp (maxSteps:=9^9) -dsimp (disch:=repeat first|rw [nxn]|rw [nxp]|omega) only [go_sem,t0,t3,t87,t88,w71,b2,y6',l7,l10,bldRc0,FP,true_and,true_or,or_true,implies_true,svi,svb,svs,svp]
    obtain ⟨u1,u2⟩:=upd' (g7.put id (.cells (css'.set i (putCells [.int .i64 y.dev,.str y.folder,.str y.path,.str y.now.path,nv2,.int .i64 y.now.own,.bool y.now.gone,.int .i64 y.now.size,.int .i64 y.now.len,nd2,pv2,.int .i64 (y.start:Nat)] 3 [.str [],.nilsl,.int .i64 0,.bool false,.int .i64 0,.int .i64 0,.nilsl])).flatten true false)) _ { y with now:=rc0 } rfl (AH.get_put_eq rfl) (fun j hj=>AH.get_put_ne hj) (fun gk hpv=>⟨.nilsl,.nilsl,pv2,rfl,⟨.inl ⟨rfl,rfl⟩,Nat.zero_le _⟩,⟨.inl ⟨rfl,rfl⟩,Nat.zero_le _⟩,Nat.zero_le _,hpv,b11,b12⟩) rfl
    exact ⟨l'.length-(i+1),by omega,i+1,l2.set i { y with now:=rc0 },by omega,by rw [List.length_set];exact hl2,rfl,u1,(gk2.trans (F7.gk K')).trans u2,hI.clr _ _ _ _ hi3 hy,rfl⟩
   ·simp (maxSteps:=9^9) -dsimp (disch:=repeat first|rw [nxn]|rw [nxp]|omega) only [go_sem,c4,t87,t88]
    exact ⟨trivial,.inl ⟨trivial,l2,hz2,gk2,hi3⟩⟩
  ·simp (maxSteps:=9^9) -dsimp (disch:=repeat first|rw [nxn]|rw [nxp]|omega) only [go_sem]
   exact ⟨trivial,t0,t3,trivial,0,l',Nat.zero_le _,rfl,rfl,hzz,Gk.refl _ _,hii,rfl⟩
  ·rintro ex ⟨tt,g2,q⟩ ⟨e2,⟨rfl,l2,hz2,gk2,hi3⟩ | ⟨rfl,l2,hz2,gk2,t4⟩⟩
   ·dsimp only at e2 hz2 gk2
    subst e2
    simp (maxSteps:=9^9) -dsimp (disch:=repeat first|rw [nxn]|rw [nxp]|omega) only [go_sem]
    exact ⟨0,K',l2,s,rfl,hz2,((fr_zg f1 K).trans zgg).trans ⟨gk2,fun _ _=>rfl⟩,fun _=>⟨hI.mono _ _ _ hi3 (by omega),hb.mono (by omega)⟩⟩
   ·dsimp only at e2 hz2 gk2 t4
    subst e2
    simp (maxSteps:=9^9) -dsimp (disch:=repeat first|rw [nxn]|rw [nxp]|omega) only [go_sem,t4]
    exact ⟨5,K',l2,s,rfl,hz2,((fr_zg f1 K).trans zgg).trans ⟨gk2,fun _ _=>rfl⟩,fun hh=>by cases hh⟩
end
end Go.Proofs.YtihigekgnnoejaaGreatDoor.mdl
end