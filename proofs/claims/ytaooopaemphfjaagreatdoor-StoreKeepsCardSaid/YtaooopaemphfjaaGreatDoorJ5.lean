/- Texts joined: SKa, SKb. -/
import Derived.Test.YtaooopaemphfjaaGreatDoorJ4
import Derived.Test.YtaooopaemphfjaaGreatDoorH2
import Derived.Test.YtaooopaemphfjaaGreatDoorH3
import Derived.Test.YtaooopaemphfjaaGreatDoorG3
import Derived.Test.YtaooopaemphfjaaGreatDoorAb7
set_option maxRecDepth 100000
set_option linter.unusedVariables false
set_option linter.unusedSimpArgs false
set_option maxHeartbeats 64000000
section
namespace Go.Proofs.YtaooopaemphfjaaGreatDoor.tbl
open Go Go.Abs Go.Abs.Rec Go.Abs.Wal Go.Proofs Go.Proofs.YtaooopaemphfjaaGreatDoor.tre
theorem neP2 (h:AH) (p q:Pr):∃b,binA Tryz.prog h .neq 58 (aP p) (aP q)=some (.bool b)∧(p=q→b=false):=by
 obtain ⟨k,x,g⟩:=p
 obtain ⟨k2,x2,g2⟩:=q
 have h1:eqOk Tryz.prog 58 (.agg [.str k,.str x,.bool g]) (.agg [.str k2,.str x2,.bool g2])=true:=by
  show (!(Tryz.prog.eqGuardType Tryz.prog.depth 58))=true
  kernel_rfl
 have hsi:Tryz.prog.stoodInHeld 58=false:=by kernel_rfl
 have hs:∀d (b c:List Nat),eqA Tryz.prog h (d+1) 9 (.str b) (.str c)=some (eqL b c):=fun d b c=>by
  unfold eqA
  rw [Tryz.underlying9]
 have hi:∀d (b c:Bool),eqA Tryz.prog h (d+1) 4 (.bool b) (.bool c)=some (b==c):=fun d b c=>by
  unfold eqA
  rw [Tryz.underlying4]
  try (cases b <;> cases c <;> rfl)
 have h2:eqA Tryz.prog h (11+1) 58 (.agg [.str k,.str x,.bool g]) (.agg [.str k2,.str x2,.bool g2])=some (eqL k k2&&(eqL x x2&&(g==g2))):=by
  unfold eqA
  rw [Tryz.underlying58]
  simp only [hsi]
  cases e1:eqL k k2 <;> cases e2:eqL x x2 <;> cases e3:g==g2 <;> simp [eqFs,partA,aggT,tz9,tz4,hs 10,hi 10,e1,e2,e3,Tryz.underlying9,Tryz.underlying4]
 refine ⟨!(eqL k k2&&(eqL x x2&&(g==g2))),?_,fun hh=>by cases hh;simp [eqL_eq]⟩
 show (if eqOk Tryz.prog 58 (.agg [.str k,.str x,.bool g]) (.agg [.str k2,.str x2,.bool g2])=true then (eqA Tryz.prog h (11+1) 58 (.agg [.str k,.str x,.bool g]) (.agg [.str k2,.str x2,.bool g2])).map fun x=>AV.bool !x else none)=_
 rw [if_pos h1,h2]
 rfl
theorem psLtK {h:AH} {v:AV} {l:KL (List Nat×Bool)} (hb:Ps h v l) {id o n z:Nat} {c:Option Nat} (hv:v=.sl id o n z c):id<h.nx:=by
 rcases hb with ⟨h1,_⟩ | ⟨id',off,c',cs,o',t,h1,h2,h3,h4⟩
 ·rw [h1] at hv;cases hv
 ·rw [h1] at hv;cases hv;exact h3
theorem pf_doneK {L:KL (List Nat)} {l:KL (List Nat×Bool)} {i:Nat} {p:Pr} (h:l[i]? = some p):pf (doneP L (l.take (i+1)))=if p.2.2=true then delP (pf (doneP L (l.take i))) p.1 else putP (pf (doneP L (l.take i))) p.1 (p.2.1,false):=by
 rw [done_take h,pf_put,pf_del]
 split <;> rfl
section
variable {S : Sums}
structure Sk (S:Sums):Prop extends Sw S,Te S where
 nk:∀f args h,f∈[20,22]→S f args h=none
theorem pairsB (hS:Sw S) {h:AH} {v w:AV} {l m:KL (List Nat×Bool)} (hv:Ps h v l) (hw:Ps h w m) (hl:l.length≤1000000) (hm:m.length≤1000000):RnC Tryz.prog S 11 [v,w] h fun r h'=>(∃b,r=.bool b∧(l=m→b=true))∧Fr h h':=by
 refine RnC.enter' Tryz.f11 _ 26 [.tmp 4] (hS.nb _ _ _ (by simp)) bd11 Tryz.func11 rfl rfl rfl ?_
 obtain ⟨lv,sv,ov⟩:=hv.ln
 obtain ⟨lw,sw,ow⟩:=hw.ln
 by_cases hlm:((l.length:Nat):Int)=((m.length:Nat):Int)
 case neg =>
  simp -dsimp (disch:=(repeat first | rw [nxn] | rw [nxp]);try omega) only [go_sem,lv,ov,lw,ow,hlm]
  exact ⟨⟨false,by first | trivial | rfl,fun hh=>absurd (by rw [hh]) hlm⟩,Fr.refl _⟩
 simp -dsimp (disch:=(repeat first | rw [nxn] | rw [nxp]);try omega) only [go_sem,lv,ov,lw,ow,hlm]
 refine loopK_of (RnL.rounds (Q:=fun ex u=>u.d=[]∧Fr h u.h∧(ex=.exit 0∨ex=.ret∧u.t.get 4=some (.bool false)∧l≠m))
  (fun k u=>u.d=[]∧Fr h u.h∧u.t.get 0=some v∧u.t.get 1=some w∧∃i:Nat,u.t.get 5=some (.int .i64 (i:Nat))∧i≤l.length∧k=l.length-i) ?_ l.length ?_) ?_
 ·rintro k ⟨tt,g,d⟩ ⟨e2,e1,g0,g1,i,g5,hi,rfl⟩
  dsimp only at e1 e2 g0 g1 g5
  subst e2
  by_cases c4:(i:Int)<(l.length:Nat)
  ·have hil:i<l.length:=by omega
   have him:i<m.length:=by omega
   obtain ⟨p,hp⟩:∃p,l[i]? = some p:=⟨_,List.getElem?_eq_getElem hil⟩
   obtain ⟨q,hq⟩:∃q,m[i]? = some q:=⟨_,List.getElem?_eq_getElem him⟩
   obtain ⟨id,off,c,cs,o,tx,rfl,hgi,hidl,hle,hx,_⟩:=Ps.at hv hp
   obtain ⟨id2,off2,cc,cs2,oo,tx2,rfl,hgi2,hidl2,hle2,hx2,_⟩:=Ps.at hw hq
   have hgx:=(e1.get id hidl).trans hgi
   have hgx2:=(e1.get id2 hidl2).trans hgi2
   obtain ⟨b,hb,hbt⟩:=neP2 { tr:=g.tr,nx:=g.nx+9 } p q
   have hbg:∀g,binA Tryz.prog g .neq 58 (aP p) (aP q)=some (.bool b):=fun g=>hb
   unfold aP at hbg
   simp -dsimp (disch:=(repeat first | rw [nxn] | rw [nxp]);try omega) only [go_sem,lv,c4,g0,g1,g5]
   refine syDraw.keepN 0 (fun _=>True) (by kernel_rfl) (by kernel_rfl) rfl ?_
   simp -dsimp (disch:=(repeat first | rw [nxn] | rw [nxp]);try omega) only [go_sem,lv,c4,hil,him,hgx,hgx2,hle,hle2,hx,hx2,hbg,g0,g1,g5]
   cases b
   ·simp -dsimp (disch:=(repeat first | rw [nxn] | rw [nxp]);try omega) only [go_sem,lv,c4,g0,g1,g5]
    exact ⟨l.length-(i+1),by omega,trivial,e1.more _ (by omega),trivial,trivial,i+1,rfl,by omega,rfl⟩
   ·simp -dsimp (disch:=(repeat first | rw [nxn] | rw [nxp]);try omega) only [go_sem,lv,c4,g0,g1,g5]
    exact ⟨trivial,e1.more _ (by omega),.inr ⟨trivial,trivial,fun hh=>by
     subst hh
     rw [hp] at hq
     have:=hbt (Option.some.inj hq)
     cases this⟩⟩
  ·simp -dsimp (disch:=(repeat first | rw [nxn] | rw [nxp]);try omega) only [go_sem,lv,c4,g0,g1,g5]
   exact ⟨trivial,e1,.inl trivial⟩
 ·simp -dsimp (disch:=(repeat first | rw [nxn] | rw [nxp]);try omega) only [go_sem]
  exact ⟨trivial,Fr.refl _,trivial,trivial,0,rfl,Nat.zero_le _,rfl⟩
 ·rintro ex ⟨tt,g,d⟩ ⟨rfl,e1,hx⟩
  dsimp only at e1 hx
  rcases hx with rfl | ⟨rfl,t4,hne⟩
  ·simp -dsimp (disch:=(repeat first | rw [nxn] | rw [nxp]);try omega) only [go_sem]
   exact ⟨⟨true,by first | trivial | rfl,fun _=>rfl⟩,e1⟩
  ·simp -dsimp (disch:=(repeat first | rw [nxn] | rw [nxp]);try omega) only [go_sem,t4]
   exact ⟨⟨false,by first | trivial | rfl,fun hh=>absurd hh hne⟩,e1⟩
theorem sameB (hS:Sk S) {K:Nat→Nat} {h:AH} {tv v:AV} {t:Tp} {M:KL (List Nat)} (htv:TpA K h tv t) (hv:Ps h v (pf M)) (hl:t.size≤100000) (hm:M.length≤100000) :
  RnC Tryz.prog S 22 [.agg [tv],.agg [v]] h fun r h'=>(∃b,r=.bool b∧(ino t=M→b=true))∧Fr h h':=by
 refine RnC.enter' Tryz.f22 _ 12 [.tmp 4] (hS.nk _ _ _ (by simp)) bd22 Tryz.func22 rfl rfl rfl ?_
 have otv:=htv.one.1
 have om:=otv
 unfold oneA at om
 obtain ⟨lv,sv,ov⟩:=hv.ln
 have omv:=ov
 unfold oneA at omv
 simp -dsimp (disch:=(repeat first | rw [nxn] | rw [nxp]);try omega) only [go_sem,otv,om,ov,omv]
 generalize hg:((h.new (.cells [tv] true false)).new (.cells [v] true false))=g
 have ng:g.nx=h.nx+2:=by rw [←hg];rfl
 have fg:Fr h g:=by rw [←hg];exact (Fr.new _ _).news _
 have c0:g.get h.nx=some (.cells [tv] true false):=by rw [←hg];exact (AH.get_new_ne (by simp)).trans (AH.get_new_eq rfl)
 have c1:g.get (h.nx+1)=some (.cells [v] true false):=by rw [←hg];exact AH.get_new_eq rfl
 have fx:Fr g { tr:=g.tr,nx:=g.nx+8 }:=(Fr.refl g).more _ (by omega)
 have sT:=svT htv.shape
 refine syDraw.keep (fun j=>j=h.nx∨j=h.nx+1) (by kernel_rfl) (by kernel_rfl) ?_
 simp -dsimp (disch:=(repeat first | rw [nxn] | rw [nxp]);try omega) only [go_sem,c0,otv,om,sT,true_and,true_or,or_true,implies_true,svi,svb,svs]
 refine callK_of (sizeC hS.toTb ((htv.fr fg).fr fx)) ?_
 rintro w1 g1 ⟨rfl,f1⟩
 have n1:g.nx+8≤g1.nx:=f1.nx
 refine ⟨fun j hj=>f1.get j (by show j<g.nx+8;omega),?_⟩
 try simp -dsimp (disch:=(repeat first | rw [nxn] | rw [nxp]);try omega) only [go_sem,otv,om,true_and,true_or,or_true,implies_true,svi,svb,svs]
 refine callK_of (rangeC hS.toTb (((htv.fr fg).fr fx).fr f1) rfl (by omega)) ?_
 rintro w2 g2 ⟨hp2,f2⟩
 have n2:=f2.nx
 refine ⟨fun j hj=>f2.get j (by omega),?_⟩
 have c12:g2.get (h.nx+1)=_:=(f2.get _ (by omega)).trans ((f1.get _ (by show h.nx+1<g.nx+8;omega)).trans c1)
 obtain ⟨lm,sm,om2⟩:=hp2.ln
 simp -dsimp (disch:=(repeat first | rw [nxn] | rw [nxp]);try omega) only [go_sem,c12,ov,sv,om2,true_and,true_or,or_true,implies_true,svi,svb,svs]
 refine callK_of (pairsB hS.toSw hp2 (((hv.fr ((fg.trans fx).trans f1)).fr f2)) (by simp [pf];rw [←Tp.size_eq];omega) (by simp [pf];omega)) ?_
 rintro w3 g3 ⟨⟨b,rfl,hb⟩,f3⟩
 have n3:=f3.nx
 refine ⟨fun j hj=>f3.get j (by omega),?_⟩
 try simp -dsimp (disch:=(repeat first | rw [nxn] | rw [nxp]);try omega) only [go_sem]
 exact ⟨⟨b,by first | trivial | rfl,fun hh=>hb (by rw [hh])⟩,(((fg.trans fx).trans f1).trans f2).trans f3⟩
theorem doneD (hS:Sk S) {h:AH} {v w:AV} {L:KL (List Nat)} {l:KL (List Nat×Bool)} (hv:Ps h v (pf L)) (hw:Ps h w l) (hr0:riseP L) (hL:L.length+l.length≤90000) :
  RnC Tryz.prog S 20 [.agg [v],w] h fun r h'=>(∃a,r=.agg [a]∧Ps h' a (pf (doneP L l))∧∀id o n z c,a=.sl id o n z c→a=v∨h.nx≤id)∧Fr h h':=by
 refine RnC.enter' Tryz.f20 _ 37 [.cell 4 47] (hS.nk _ _ _ (by simp)) bd20 Tryz.func20 rfl rfl rfl ?_
 have ov:=hv.ln.2.2
 have om:=ov
 unfold oneA at om
 obtain ⟨lw,sw,ow⟩:=hw.ln
 simp -dsimp (disch:=(repeat first | rw [nxn] | rw [nxp]);try omega) only [go_sem,ov,om,ow]
 generalize hg:((h.new (.cells [v] true false)).new (.cells [.nilsl] true false))=g
 have ng:g.nx=h.nx+2:=by rw [←hg];rfl
 have fg:Fr h g:=by rw [←hg];exact (Fr.new _ _).news _
 have c0:g.get h.nx=some (.cells [v] true false):=by rw [←hg];exact (AH.get_new_ne (by simp)).trans (AH.get_new_eq rfl)
 have c1:g.get (h.nx+1)=some (.cells [.nilsl] true false):=by rw [←hg];exact AH.get_new_eq rfl
 have hvn:∀id o n z c,v=.sl id o n z c→id<h.nx:=fun id o n z c hh=>psLtK hv hh
 have eg2:h.nx+1+1=g.nx:=by omega
 try rw [eg2]
 refine loopK_of (RnL.rounds (Q:=fun ex u=>ex=.exit 0∧u.d=[]∧u.t.get 2=some (.ptr h.nx 0)∧u.t.get 4=some (.ptr (h.nx+1) 0)∧g.nx≤u.h.nx∧(∀j,j<g.nx→j≠h.nx→u.h.get j=g.get j)∧∃a,u.h.get h.nx=some (.cells [a] true false)∧Ps u.h a (pf (doneP L l))∧∀id o n z c,a=.sl id o n z c→a=v∨g.nx≤id)
  (fun m u=>u.d=[]∧u.t.get 1=some w∧u.t.get 2=some (.ptr h.nx 0)∧u.t.get 4=some (.ptr (h.nx+1) 0)∧g.nx≤u.h.nx∧(∀j,j<g.nx→j≠h.nx→u.h.get j=g.get j)∧∃(i:Nat) (a:AV),u.t.get 5=some (.int .i64 (i:Nat))∧u.h.get h.nx=some (.cells [a] true false)∧Ps u.h a (pf (doneP L (l.take i)))∧(∀id o n z c,a=.sl id o n z c→a=v∨g.nx≤id)∧i≤l.length∧m=l.length-i) ?_ l.length ?_) ?_
 ·rintro m ⟨tt,gy,d⟩ ⟨e9,s1,s2,s4,hny,hoy,i,a,s5,hcy,hay,hayn,hi,rfl⟩
  dsimp only at e9 s1 s2 s4 s5 hny hoy hcy hay
  subst e9
  have oa:=hay.ln.2.2
  by_cases c5:(i:Int)<(l.length:Nat)
  ·have hil:i<l.length:=by omega
   obtain ⟨p,hp⟩:∃p,l[i]? = some p:=⟨_,List.getElem?_eq_getElem hil⟩
   obtain ⟨id,off,c,cs,o,tx,rfl,hgi,hidl,hle,hx,x0,x1,x2⟩:=Ps.at hw hp
   have hgy:gy.get id=_:=(hoy id (by omega) (by omega)).trans ((fg.get id hidl).trans hgi)
   have hst:=pf_doneK (L:=L) hp
   obtain ⟨hd1,hd2⟩:=done_rise (l.take i) hr0
   rw [List.length_take] at hd2
   have hlen:(pf (doneP L (l.take i))).length≤100000:=by simp only [pf,List.length_map];omega
   have hvid:∀id o n z c,a=.sl id o n z c→id<h.nx∨g.nx≤id:=fun id o n z c hh=>by
    rcases hayn _ _ _ _ _ hh with h7 | h7
    ·exact .inl (hvn _ _ _ _ _ (h7.symm.trans hh))
    ·exact .inr h7
   have qend:∀(g5:AH) (a5:AV) (fy:Fr gy g5) (M:KL (List Nat×Bool)),Ps g5 a5 M→(∀id o n z c,a5=.sl id o n z c→a5=v∨g.nx≤id)→Ps (g5.put h.nx (.cells [a5] true false)) a5 M∧g.nx≤g5.nx∧∀j,j<g.nx→j≠h.nx→(g5.put h.nx (.cells [a5] true false)).get j=g.get j:=fun g5 a5 fy M hp5 hn5 =>
    ⟨psPut hp5 fun id o n z c hh=>(by
     rcases hn5 _ _ _ _ _ hh with h7 | h7
     ·have:=hvn _ _ _ _ _ (h7.symm.trans hh);omega
     ·omega),Nat.le_trans hny fy.nx,fun j hj hne=>(AH.get_put_ne hne).trans ((fy.get j (Nat.lt_of_lt_of_le hj hny)).trans (hoy j hj hne))⟩
   cases hgn:p.2.2
   ·rw [hgn] at hst x2
    rw [if_neg (by decide)] at hst
    simp -dsimp (disch:=(repeat first | rw [nxn] | rw [nxp]);try omega) only [go_sem,lw,c5,s1,s2,s4,s5,hil,hgy,x2]
    refine syDraw.keepN 0 (fun _=>True) (by kernel_rfl) (by kernel_rfl) rfl ?_
    have fy:Fr gy { tr:=gy.tr,nx:=gy.nx+13 }:=(Fr.refl gy).more _ (by omega)
    simp -dsimp (disch:=(repeat first | rw [nxn] | rw [nxp]);try omega) only [go_sem,hcy,oa,s1,s2,s4,s5,hil,hgy,x0,x1]
    refine callK_of (putD hS.toTd p.1 p.2.1 (hay.fr fy) hlen) ?_
    rintro w5 g5 ⟨⟨a5,rfl,ha5,hge5⟩,f5⟩
    have f5':=fy.trans f5
    have n5:=f5'.nx
    have hc5:g5.get h.nx=_:=(f5'.get _ (by omega)).trans hcy
    rw [←hst] at ha5
    have hn5:∀id o n z c,a5=.sl id o n z c→a5=v∨g.nx≤id:=fun id o n z c hh=>.inr (by have h7:gy.nx+13≤id:=hge5 _ _ _ _ _ hh;omega)
    obtain ⟨k1,k2,k3⟩:=qend g5 a5 f5' _ ha5 hn5
    rcases psShape ha5 with hsh | ⟨i5,o5,n5',c5',hsh⟩
    all_goals
     subst hsh
     simp -dsimp (disch:=(repeat first | rw [nxn] | rw [nxp]);try omega) only [go_sem,hc5,s1,s2,s4,s5]
     exact ⟨l.length-(i+1),by omega,trivial,trivial,trivial,trivial,k2,k3,i+1,_,rfl,rfl,k1,hn5,by omega,rfl⟩
   ·rw [hgn] at hst x2
    rw [if_pos rfl] at hst
    simp -dsimp (disch:=(repeat first | rw [nxn] | rw [nxp]);try omega) only [go_sem,lw,c5,s1,s2,s4,s5,hil,hgy,x2]
    refine syDraw.keepN 0 (fun _=>True) (by kernel_rfl) (by kernel_rfl) rfl ?_
    have fy:Fr gy { tr:=gy.tr,nx:=gy.nx+8 }:=(Fr.refl gy).more _ (by omega)
    simp -dsimp (disch:=(repeat first | rw [nxn] | rw [nxp]);try omega) only [go_sem,hcy,oa,s1,s2,s4,s5,hil,hgy,x0,x1]
    refine callK_of (dropD hS.toTd p.1 (hay.fr fy) hlen) ?_
    rintro w5 g5 ⟨⟨a5,rfl,ha5,hge5⟩,f5⟩
    have f5':=fy.trans f5
    have n5:=f5'.nx
    have hc5:g5.get h.nx=_:=(f5'.get _ (by omega)).trans hcy
    rw [←hst] at ha5
    have hn5:∀id o n z c,a5=.sl id o n z c→a5=v∨g.nx≤id:=fun id o n z c hh=>by
     rcases hge5 _ _ _ _ _ hh with h7 | h7
     ·rcases hayn _ _ _ _ _ (h7.symm.trans hh) with h8 | h8
      ·exact .inl (h7.trans h8)
      ·exact .inr h8
     ·have h8:gy.nx+8≤id:=h7
      exact .inr (by omega)
    obtain ⟨k1,k2,k3⟩:=qend g5 a5 f5' _ ha5 hn5
    rcases psShape ha5 with hsh | ⟨i5,o5,n5',c5',hsh⟩
    all_goals
     subst hsh
     simp -dsimp (disch:=(repeat first | rw [nxn] | rw [nxp]);try omega) only [go_sem,hc5,s1,s2,s4,s5]
     exact ⟨l.length-(i+1),by omega,trivial,trivial,trivial,trivial,k2,k3,i+1,_,rfl,rfl,k1,hn5,by omega,rfl⟩
  ·have:i=l.length:=by omega
   subst this
   rw [List.take_length] at hay
   simp -dsimp (disch:=(repeat first | rw [nxn] | rw [nxp]);try omega) only [go_sem,lw,c5,s1,s2,s4,s5,ow]
   exact ⟨trivial,trivial,trivial,trivial,hny,hoy,a,hcy,hay,hayn⟩
 ·simp -dsimp (disch:=(repeat first | rw [nxn] | rw [nxp]);try omega) only [go_sem]
  exact ⟨trivial,trivial,trivial,trivial,Nat.le_refl _,fun j _ _=>by first | rfl | trivial,0,v,rfl,c0,hv.fr fg,fun id o n z c hh=>.inl rfl,Nat.zero_le _,rfl⟩
 ·rintro ex ⟨tt3,gy,d3'⟩ ⟨rfl,e9,s2,s4,hny,hoy,a,hcy,hay,hayn⟩
  dsimp only at e9 s2 s4 hny hoy hcy hay
  subst e9
  have oa:=hay.ln.2.2
  have c1y:gy.get (h.nx+1)=_:=(hoy _ (by omega) (by omega)).trans c1
  have hvid:∀id o n z c,a=.sl id o n z c→id<h.nx∨g.nx≤id:=fun id o n z c hh=>by
   rcases hayn _ _ _ _ _ hh with h7 | h7
   ·exact .inl (hvn _ _ _ _ _ (h7.symm.trans hh))
   ·exact .inr h7
  have k1:Ps (gy.put (h.nx+1) (.cells [a] true false)) a (pf (doneP L l)):=psPut hay fun id o n z c hh=>by rcases hvid _ _ _ _ _ hh with h7 | h7 <;> omega
  have k2:Fr h (gy.put (h.nx+1) (.cells [a] true false)):=⟨by show h.nx≤gy.nx;omega,fun j hj=>(AH.get_put_ne (by omega)).trans ((hoy j (by omega) (by omega)).trans (fg.get j hj))⟩
  have k3:∀id o n z c,a=.sl id o n z c→a=v∨h.nx≤id:=fun id o n z c hh=>(hayn id o n z c hh).elim .inl fun h7=>.inr (by omega)
  rcases psShape hay with hsh | ⟨i5,o5,n5',c5',hsh⟩
  all_goals
   subst hsh
   simp -dsimp (disch:=(repeat first | rw [nxn] | rw [nxp]);try omega) only [go_sem,hcy,c1y,s2,s4]
   exact ⟨⟨_,by first | trivial | rfl,k1,k3⟩,k2⟩
theorem SA.fuse (hS:Sw S) {C:Nat→Nat} {h:AH} {p L Q:Nat} {path:Pth} {gr:Nat} {l:Lg} {T:TT} {tv:AV} (hs:SA C h p L Q path gr l T tv) (n:Int) (hn:n≤9223372036854775807) :
  RnC Tryz.prog S 18 [.ptr p 0,.int .i64 n] h fun r h'=>r=.int .i64 0∧∃C',SA C' h' p L Q path gr l { T with fuse:=max (-1) n } tv∧tre.Gr C h C' h':=by
 obtain ⟨K,nm,sm,chv,ρ,hT,hC,kl,kq⟩:=hs.tr
 refine (fuseC hS.wl.toSt hT n hn).mono ?_
 rintro r h' ⟨rfl,hT',g⟩
 obtain ⟨C',h1,h2⟩:=hs.step hT hC kl kq (l':=l) (T':={ T with fuse:=max (-1) n }) ⟨K,nm,sm,chv,ρ,hT',g.nx,fun j hj hk=>⟨fun _=>(g.get j hj hk).1,(g.get j hj hk).2⟩⟩ ((g.get L hs.Ln kl).1.trans hs.lo)
 exact ⟨rfl,C',h1,h2⟩
end
def pD:Pth:=[100,98]
theorem pDb:bytesOf { data:=#[100,98] }=pD:=by decide +kernel
theorem pDok:checkS pD=0:=by decide +kernel
theorem pDne:¬pD=tmpS++pD:=by decide +kernel
theorem pDlt:lessA (tmpS++pD) pD=true∧lessA pD (tmpS++pD)=false:=by decide +kernel
theorem fit_allV {M:KL (List Nat)} {n w:Nat} (h:Sm M n w) (v:Vs M) (hr:riseP M) (hn:n≤2400) (hw:w≤180000):Fit (allE M):=by
 obtain ⟨h2,h3,h4⟩:=h.vall v (by omega)
 have hl:=h.len
 have hread:=read_all (m:=M) (by omega) v
 refine ⟨by omega,h4,fun l hl=>(by rw [hread] at hl;cases hl),fun l hl=>?_⟩
 rw [hread] at hl
 cases hl
 rw [ofP_rise hr]
 refine ⟨by rw [List.length_map];omega,fun p hp=>?_,v,by omega,h4⟩
 obtain ⟨q,hq,rfl⟩:=List.mem_map.1 hp
 exact v q hq
theorem svPs {h:AH} {v:AV} {l:KL (List Nat×Bool)} (hb:Ps h v l):sameAV 20 (.agg [v]) (.agg [v])=true:=by
 rcases psShape hb with rfl | ⟨id,o,n,c,rfl⟩ <;> simp [sameAV,sameL]
theorem TA.res {C K:Nat→Nat} {h h':AH} {p:Nat} {T':TT} (hC:∀j,K j≠0→C j≠0) (top:∀j,h.nx≤j→C j=0) (hr:Res K p h h' T'):∃C',TA C' h' p T'∧tre.Gr C h C' h':=by
 obtain ⟨K',nm',sm',chv',ρ',hT',g⟩:=hr
 have z:∀j,C j=0→K j=0:=fun j hj=>Decidable.byContradiction fun hh=>hC j hh hj
 refine ⟨fun j=>K' j+C j,⟨⟨K',nm',sm',chv',ρ',hT',fun j hj=>by show K' j+C j≠0;omega⟩,fun j hj=>?_⟩,g.nx,fun j hj hk=>?_⟩
 ·have h1:=hT'.top j hj
  have h2:=top j (Nat.le_trans g.nx hj)
  show K' j+C j=0
  omega
 ·have h1:=g.get j hj (z j hk)
  exact ⟨h1.1,by show K' j+C j=0;rw [h1.2,hk]⟩
def D12 (n1 n2:Nat) (j:Nat):Nat:=if j=n1∨j=n2 then 1 else 0
theorem d12a (n1 n2:Nat):D12 n1 n2 n1≠0:=by unfold D12;rw [if_pos (.inl rfl)];decide
theorem d12b (n1 n2:Nat):D12 n1 n2 n2≠0:=by unfold D12;rw [if_pos (.inr rfl)];decide
theorem d12z {n1 n2 j:Nat} (h1:j≠n1) (h2:j≠n2):D12 n1 n2 j=0:=if_neg fun hh=>hh.elim h1 h2
def Cc (C:Nat→Nat) (h:AH) (n b:Nat) (M:KL (List Nat)):Prop:=∃v,h.get n=some (.cells [v] true false)∧n<h.nx∧C n=0∧Ps h v (pf M)∧∀id o n z c,v=.sl id o n z c→C id=0∧b<id
theorem Cc.gr {C C':Nat→Nat} {h h':AH} {n b:Nat} {M:KL (List Nat)} (hc:Cc C h n b M) (g:tre.Gr C h C' h'):Cc C' h' n b M:=by
 obtain ⟨v,h1,h2,h3,h4,h5⟩:=hc
 obtain ⟨q1,q2⟩:=psGr h4 (fun id o n z c hh=>(h5 id o n z c hh).1) g
 exact ⟨v,(g.get n h2 h3).1.trans h1,Nat.lt_of_lt_of_le h2 g.nx,(g.get n h2 h3).2,q1,fun id o n z c hh=>⟨q2 id o n z c hh,(h5 id o n z c hh).2⟩⟩
theorem Cc.fr {C:Nat→Nat} {h h':AH} {n b:Nat} {M:KL (List Nat)} (hc:Cc C h n b M) (f:Fr h h'):Cc C h' n b M:=hc.gr (grFr f)
theorem Cc.put {C:Nat→Nat} {h:AH} {n b j:Nat} {o:AO} {M:KL (List Nat)} (hc:Cc C h n b M) (h1:j≠n) (h2:j≤b):Cc C (h.put j o) n b M:=by
 obtain ⟨v,q1,q2,q3,q4,q5⟩:=hc
 exact ⟨v,(AH.get_put_ne h1.symm).trans q1,q2,q3,psPut q4 fun id o n z c hh=>(by have:=(q5 id o n z c hh).2;omega),q5⟩
theorem Cc.set {C:Nat→Nat} {h:AH} {n b:Nat} {v:AV} {M:KL (List Nat)} (hv:Ps h v (pf M)) (hn:n<h.nx) (hc:C n=0) (hb:n≤b) (hi:∀id o n z c,v=.sl id o n z c→C id=0∧b<id):Cc C (h.put n (.cells [v] true false)) n b M :=
 ⟨v,AH.get_put_eq rfl,hn,hc,psPut hv fun id o n z c hh=>(by have:=(hi id o n z c hh).2;omega),hi⟩
theorem Cc.mono {C C':Nat→Nat} {h:AH} {n b:Nat} {M:KL (List Nat)} (hc:Cc C h n b M) (hk:∀j,C j=0→C' j=0):Cc C' h n b M:=by
 obtain ⟨v,q1,q2,q3,q4,q5⟩:=hc
 exact ⟨v,q1,q2,hk _ q3,q4,fun id o n z c hh=>⟨hk _ (q5 id o n z c hh).1,(q5 id o n z c hh).2⟩⟩
theorem D2.putD {h0 h:AH} {C D:Nat→Nat} (d:D2 h0 h C D) {n:Nat} {o:AO} (hn:D n≠0):D2 h0 (h.put n o) C D :=
 ⟨d.dj,d.tc,d.td,d.fr.put _ (Nat.le_of_not_lt fun hh=>hn (d.od n hh)),d.oc,d.od⟩
theorem SA.putD {h0 h:AH} {C D:Nat→Nat} {p L Q:Nat} {path:Pth} {gr:Nat} {l:Lg} {T:TT} {tv:AV} (hs:SA C h p L Q path gr l T tv) (d:D2 h0 h C D) {n:Nat} {o:AO} (hn:D n≠0):SA C (h.put n o) p L Q path gr l T tv :=
 hs.kp (Nat.le_refl _) fun j hj=>AH.get_put_ne fun hh=>hn (hh▸d.dj j hj)
def Ki (g:AH) (p Q n1 n2 gr i:Nat) (h:AH):Prop :=
 ∃C L tv t s a k,SA C h p L Q pD gr s.l s.T tv∧D2 g h C (D12 n1 n2)∧TpA (fun j=>C j+D12 n1 n2 j) h tv t∧ino t=s.L∧Kx Fit pD k s a∧k≤i∧Cc C h n1 n2 s.L∧∃M,Cc C h n2 n2 M
def Kf (g:AH) (p n1 n2:Nat) (h:AH):Prop :=
 ∃C T L L' n c,TA C h p T∧D2 g h C (D12 n1 n2)∧Cx Fit pD (tmpS++pD) L L' T∧Bm n c T∧n≤10000∧c≤1000000∧L.length≤10000∧L'.length≤10000∧Cc C h n1 n2 L∧Cc C h n2 n2 L'
section
variable {S : Sums}
theorem keeps7 (hS:Sk S) (hN:∀args h,S 4 args h=none) (hL:∀h,S 6 [] h=some (.bool true,h)) {h:AH} {x0 vp:AV} {Ls:List (KL (List Nat×Bool))} {ps:List Int} {grow fuse keep:Int}
  (hx0:Qs h x0 Ls) (hb0:∀l∈Ls,∀p∈l,byL p.1∧byL p.2.1) (hp:Iv (fun _=>0) h vp ps) (hfu:fuse≤9223372036854775807) (hgw:grow≤9223372036854775807):RnC Tryz.prog S 4 [x0,.int .i64 grow,.int .i64 fuse,.int .i64 keep,vp] h fun r _=>r=.bool true:=by
 refine RnC.enter' Tryz.f4 _ 160 [.tmp 10] (hN _ _) bd4 Tryz.func4 rfl rfl rfl ?_
 obtain ⟨lv0,o0⟩:=hx0.ln
 obtain ⟨np,sp,op⟩:=hp.ln
 simp -dsimp (disch:=(repeat first | rw [nxn] | rw [nxp]);try omega) only [go_sem,o0,op]
 refine callK_of (RnC.sum (hL _) (Q:=fun v h'=>v=.bool true∧h'=h) ⟨rfl,rfl⟩) ?_
 rintro r g ⟨rfl,rfl⟩
 simp -dsimp (disch:=(repeat first | rw [nxn] | rw [nxp]);try omega) only [go_sem,o0,op]
 refine loopK_of (RnL.rounds (Q:=fun ex u=>u.d=[]∧(ex=.ret∧u.t.get 10=some (.bool true)∨ex=.exit 0∧u.t.get 0=some x0∧u.t.get 1=some (.int .i64 grow)∧u.t.get 2=some (.int .i64 fuse)∧u.t.get 3=some (.int .i64 keep)∧u.t.get 4=some vp∧Fr g u.h∧(Ls.length≤60→∀l∈Ls,l.length≤40∧wM 3000 l≤3000)))
  (fun m u=>u.d=[]∧u.t.get 0=some x0∧u.t.get 1=some (.int .i64 grow)∧u.t.get 2=some (.int .i64 fuse)∧u.t.get 3=some (.int .i64 keep)∧u.t.get 4=some vp∧Fr g u.h∧∃i:Nat,u.t.get 11=some (.int .i64 (i:Nat))∧i≤Ls.length∧m=Ls.length-i∧∀l∈Ls.take i,l.length≤40∧wM 3000 l≤3000) ?_ Ls.length ?_) ?_
 ·rintro m ⟨tt,gx,d⟩ ⟨e2,v0,v1,v2,v3,v4,fx,i,v11,hi,rfl,hli⟩
  dsimp only at e2 v0 v1 v2 v3 v4 v11 fx
  subst e2
  by_cases c1:(i:Int)<(Ls.length:Nat)
  ·by_cases c2:(i:Int)≤60
   ·have hil:i<Ls.length:=by omega
    obtain ⟨l,hli2⟩:∃l,Ls[i]? = some l:=⟨_,List.getElem?_eq_getElem hil⟩
    obtain ⟨id,cs,w,rfl,hgi,hcw,hw⟩:=(hx0.fr fx).at hli2
    have ow:=hw.ln.2.2
    try simp -dsimp (disch:=(repeat first | rw [nxn] | rw [nxp]);try omega) only [go_sem,c1,c2,v0,v1,v2,v3,v4,v11,lv0,hil,hgi,hcw,ow,Nat.mul_one]
    refine callK_of (lightS hS.toSw hw (N:=40) (M:=3000) (by decide) (by decide)) ?_
    rintro r g1 ⟨f1,b1,rfl,hl1⟩
    cases b1
    ·simp -dsimp (disch:=(repeat first | rw [nxn] | rw [nxp]);try omega) only [go_sem]
     first | exact ⟨trivial,.inl ⟨trivial,trivial⟩⟩ | simp
    obtain ⟨nl,wl⟩:=hl1 rfl
    try simp -dsimp (disch:=(repeat first | rw [nxn] | rw [nxp]);try omega) only [go_sem,v0,v1,v2,v3,v4,v11]
    exact ⟨Ls.length-(i+1),by omega,trivial,trivial,trivial,trivial,trivial,trivial,fx.trans f1,i+1,rfl,by omega,rfl,fun l' hl'=>by
     rw [List.take_add_one,hli2] at hl'
     rcases List.mem_append.1 hl' with hh | hh
     ·exact hli l' hh
     ·rw [List.mem_singleton.1 hh];exact ⟨nl,wl⟩⟩
   ·try simp -dsimp (disch:=(repeat first | rw [nxn] | rw [nxp]);try omega) only [go_sem,c1,c2,v0,v1,v2,v3,v4,v11,lv0]
    first | exact ⟨trivial,.inr ⟨trivial,trivial,trivial,trivial,trivial,trivial,fx,fun hh=>absurd hh (by omega)⟩⟩ | exact ⟨fx,fun hh=>absurd hh (by omega)⟩
  ·have:i=Ls.length:=by omega
   subst this
   rw [List.take_length] at hli
   try simp -dsimp (disch:=(repeat first | rw [nxn] | rw [nxp]);try omega) only [go_sem,c1,v0,v1,v2,v3,v4,v11,lv0]
   first | exact ⟨trivial,.inr ⟨trivial,trivial,trivial,trivial,trivial,trivial,fx,fun _=>hli⟩⟩ | exact ⟨fx,fun _=>hli⟩
 ·simp -dsimp (disch:=(repeat first | rw [nxn] | rw [nxp]);try omega) only [go_sem]
  exact ⟨trivial,trivial,trivial,trivial,trivial,trivial,Fr.refl _,0,rfl,Nat.zero_le _,rfl,fun l hl=>by simp at hl⟩
 ·rintro ex ⟨tt,gx,d⟩ ⟨e2,⟨rfl,t10⟩ | ⟨rfl,v0,v1,v2,v3,v4,fx,hlt⟩⟩
  ·dsimp only at e2 t10
   subst e2
   try simp -dsimp (disch:=(repeat first | rw [nxn] | rw [nxp]);try omega) only [go_sem,t10]
  ·dsimp only at e2 v0 v1 v2 v3 v4 fx
   subst e2
   try simp -dsimp (disch:=(repeat first | rw [nxn] | rw [nxp]);try omega) only [go_sem,v0,v1,v2,v3,v4]
   refine callK_of (newC hS.wl.toSt (1048576:Int)) ?_
   rintro r g4 ⟨f4,hr⟩
   rw [if_pos (by omega)] at hr
   obtain ⟨rfl,n4,hT4⟩:=hr
   obtain ⟨A,hA4,d4⟩:∃A:Nat→Nat,TA A g4 (gx.nx+2) (newT 1048576)∧D2 g g4 A (fun _=>0):=by
    refine ⟨_,⟨⟨_,_,_,_,_,hT4,fun j hj=>hj⟩,hT4.top⟩,⟨fun j hj=>rfl,hT4.top,fun j hj=>rfl,fx.trans f4,fun j hj=>?_,fun j hj=>rfl⟩⟩
    have:=fx.nx
    exact (if_neg (by omega)).trans ((if_neg (by omega)).trans (if_neg (by omega)))
   clear hT4
   generalize gx.nx+2=pt at hA4
   by_cases h60:60<Ls.length
   ·have c60:(60:Int)<((Ls.length:Nat):Int):=by omega
    try simp -dsimp (disch:=(repeat first | rw [nxn] | rw [nxp]);try omega) only [go_sem,v0,v1,v2,v3,v4,lv0,c60]
   have c60:¬(60:Int)<((Ls.length:Nat):Int):=by omega
   by_cases h100:100<ps.length
   ·have c100:(100:Int)<((ps.length:Nat):Int):=by omega
    try simp -dsimp (disch:=(repeat first | rw [nxn] | rw [nxp]);try omega) only [go_sem,v0,v1,v2,v3,v4,lv0,c60,np,c100]
   have c100:¬(100:Int)<((ps.length:Nat):Int):=by omega
   by_cases h0:grow<0
   ·try simp -dsimp (disch:=(repeat first | rw [nxn] | rw [nxp]);try omega) only [go_sem,v0,v1,v2,v3,v4,lv0,c60,np,c100,h0]
   obtain ⟨gr,rfl⟩:∃n:Nat,grow=(n:Nat):=⟨grow.toNat,by omega⟩
   try simp -dsimp (disch:=(repeat first | rw [nxn] | rw [nxp]);try omega) only [go_sem,v0,v1,v2,v3,v4,lv0,c60,np,c100,h0,pDb]
   have hlt:=hlt (by omega)
   refine callK_of (openS hS.toSw (J:=fun j=>A j+0) hA4 (fun j hj=>by show A j+0≠0;omega) d4.top (Bm.new _) (by decide) (by decide) pDok (fun i hi=>by simp [newT,valS] at hi) (gr:=gr) (wt_new pDne (by decide)) rfl (by decide) (fun x hx=>by cases hx) (fun i=>by simp [itX])) ?_
   rintro r g5 ⟨A5,La,Qa,tva,ta,rfl,hsA,gA,_,_,htA,hiA,hrA,hHA⟩
   have d5:=d4.gr gA hsA.top
   have htA5:=tp2 (D:=fun _=>0) htA
   clear htA
   try simp -dsimp (disch:=(repeat first | rw [nxn] | rw [nxp]);try omega) only [go_sem,v0,v1,v2,v3,v4]
   refine callK_of (hsA.fuse hS.toSw fuse hfu) ?_
   rintro r g6 ⟨rfl,A6,hs6,gA6⟩
   have d6:=d5.gr gA6 hs6.top
   have ht6:=tp2 (D:=fun _=>0) (tpGr (J:=fun j=>A5 j+0) (fun j hj=>by show A5 j+0≠0;omega) gA6 htA5)
   try simp -dsimp (disch:=(repeat first | rw [nxn] | rw [nxp]);try omega) only [go_sem,v0,v1,v2,v3,v4]
   generalize hg7:((g6.new (.cells [.nilsl] true false)).new (.cells [.nilsl] true false))=g7
   have n7:g7.nx=g6.nx+2:=by rw [←hg7];rfl
   have f7:Fr g6 g7:=by rw [←hg7];exact (Fr.new _ _).news _
   have q71:g7.get g6.nx=some (.cells [.nilsl] true false):=by rw [←hg7];exact (AH.get_new_ne (by simp)).trans (AH.get_new_eq rfl)
   have q72:g7.get (g6.nx+1)=some (.cells [.nilsl] true false):=by rw [←hg7];exact AH.get_new_eq rfl
   have hI0:Ki g pt Qa g6.nx (g6.nx+1) gr 0 g7:=by
    have dz:∀j,j<g6.nx→D12 g6.nx (g6.nx+1) j=0:=fun j hj=>d12z (by omega) (by omega)
    have nn:∀n:Nat,∀id o m z c,(.nilsl:AV)=.sl id o m z c→A6 id=0∧n<id:=fun n id o m z c hh=>by cases hh
    refine ⟨A6,La,tva,ta,⟨⟨0,0,0⟩,Wg 1048576 pD 3 false (max (-1) fuse) 0 [⟨[],[],2⟩],[]⟩,[],0,hs6.fr f7,⟨fun j hj=>dz j (hs6.lt hj),fun j hj=>d6.tc j (by omega),fun j hj=>d12z (by omega) (by omega),d6.fr.trans f7,d6.oc,fun j hj=>dz j (Nat.lt_of_lt_of_le hj d6.fr.nx)⟩,(ht6.col fun j hj hk=>?_).fr f7,hiA,⟨⟨3,max (-1) fuse,0,_,2,0,rfl,rfl,rfl,by decide,by decide⟩,Aw.nil _,⟨Nat.zero_le _,Nat.zero_le _,(fun p hp=>by cases hp)⟩,(fun p hp=>by cases hp),trivial,Nat.zero_le _⟩,Nat.le_refl _,⟨.nilsl,q71,by omega,d6.tc _ (Nat.le_refl _),.inl ⟨rfl,rfl⟩,nn _⟩,[],.nilsl,q72,by omega,d6.tc _ (Nat.le_succ _),.inl ⟨rfl,rfl⟩,nn _⟩
    have hk':A6 j+0=0:=hk
    show A6 j+D12 g6.nx (g6.nx+1) j=0
    rw [dz j hj];exact hk'
   generalize hn1:g6.nx=n1 at hI0 ⊢
   generalize hn2:n1+1=n2 at hI0 ⊢
   have hn12:n1≠n2∧n1≤n2:=by omega
   clear hsA hs6 htA5 ht6 q71 q72
   try simp -dsimp (disch:=(repeat first | rw [nxn] | rw [nxp]);try omega) only [go_sem,v0,v1,v2,v3,v4]
   refine loopK_of (RnL.rounds (Q:=fun ex u=>u.d=[]∧ex=.exit 2∧u.t.get 1=some (.int .i64 (gr:Nat))∧u.t.get 3=some (.int .i64 keep)∧u.t.get 4=some vp∧u.t.get 12=some (.ptr pt 0)∧u.t.get 15=some (.ptr n1 0)∧u.t.get 16=some (.ptr n2 0)∧∃e:Nat,u.t.get 13=some (.int .i64 (e:Nat))∧(e=0∧Ki g pt Qa n1 n2 gr 60 u.h∨e≠0∧Kf g pt n1 n2 u.h))
    (fun m u=>u.d=[]∧u.t.get 0=some x0∧u.t.get 1=some (.int .i64 (gr:Nat))∧u.t.get 3=some (.int .i64 keep)∧u.t.get 4=some vp∧u.t.get 12=some (.ptr pt 0)∧u.t.get 13=some (.int .i64 0)∧u.t.get 14=some (.ptr Qa 0)∧u.t.get 15=some (.ptr n1 0)∧u.t.get 16=some (.ptr n2 0)∧∃i:Nat,u.t.get 17=some (.int .i64 (i:Nat))∧i≤Ls.length∧m=Ls.length-i∧Ki g pt Qa n1 n2 gr i u.h) ?_ Ls.length ?_) ?_
   ·rintro m ⟨tt,gy,d⟩ ⟨e2,v0,v1,v3,v4,v12,v13,v14,v15,v16,i,v17,hi,rfl,hI⟩
    dsimp only at e2 v0 v1 v3 v4 v12 v13 v14 v15 v16 v17 hI
    subst e2
    by_cases c1:(i:Int)<(Ls.length:Nat)
    ·have hil:i<Ls.length:=by omega
     obtain ⟨l,hli⟩:∃l,Ls[i]? = some l:=⟨_,List.getElem?_eq_getElem hil⟩
     have hlm:l∈Ls:=List.mem_iff_getElem?.2 ⟨i,hli⟩
     obtain ⟨C,L,tv,t,s,a,k,hs,d,htv,hit,hk,hki,hc1,M2,hc2⟩:=hI
     obtain ⟨id,cs,w,rfl,hgi,hcw,hw⟩:=(hx0.fr d.fr).at hli
     have hidn:id<gy.nx:=Nat.lt_of_not_le fun hh=>by
      have hx:=hx0.fr d.fr
      rcases hx with ⟨hh2,_⟩ | ⟨id2,cs2,h1,h2,h3,_⟩
      ·cases hh2
      ·cases h1;omega
     have ow:=hw.ln.2.2
     obtain ⟨nl,wl⟩:=hlt l hlm
     obtain ⟨wl1,_⟩:=wM_eq wl
     have gl:Gd l:=⟨by omega,by omega,hb0 l hlm⟩
     have hglen:=gl.len
     try simp -dsimp (disch:=(repeat first | rw [nxn] | rw [nxp]);try omega) only [go_sem,c1,v0,v1,v3,v4,v12,v13,v14,v15,v16,v17,lv0,hil,hgi,hcw,ow,Nat.mul_one]
     refine callK_of (recoDC hS.toTe hw (by omega) gl.pl (by omega) gl.by) ?_
     rintro r g1 ⟨rfl,f1⟩
     by_cases he:(recP l).2=0
     case neg =>
      have ce:¬(((recP l).2:Nat):Int)=0:=by omega
      try simp -dsimp (disch:=(repeat first | rw [nxn] | rw [nxp]);try omega) only [go_sem,ce,v0,v1,v3,v4,v12,v13,v14,v15,v16,v17]
      exact ⟨Ls.length-(i+1),by omega,trivial,trivial,trivial,trivial,trivial,trivial,trivial,trivial,trivial,trivial,i+1,rfl,by omega,rfl,C,L,tv,t,s,a,k,hs.fr f1,d.more f1,htv.fr f1,hit,hk,by omega,hc1.fr f1,M2,hc2.fr f1⟩
     have ce:(((recP l).2:Nat):Int)=0:=by omega
     have hgi1:g1.get id=_:=(f1.get id hidn).trans hgi
     obtain ⟨nv,q1,q2,q3,q4,q5⟩:=hc1.fr f1
     have onv:=q4.ln.2.2
     have hsl:=hk.sm.len
     try simp -dsimp (disch:=(repeat first | rw [nxn] | rw [nxp]);try omega) only [go_sem,ce,v0,v1,v3,v4,v12,v13,v14,v15,v16,v17]
     refine syDraw.keepN 0 (fun _=>True) (by kernel_rfl) (by kernel_rfl) rfl ?_
     have fy:Fr g1 { tr:=g1.tr,nx:=g1.nx+7 }:=(Fr.refl g1).more _ (by omega)
     simp -dsimp (disch:=(repeat first | rw [nxn] | rw [nxp]);try omega) only [go_sem,q1,onv,v0,v1,v3,v4,v12,v13,v14,v15,v16,v17,hil,hgi1,hcw,ow,Nat.mul_one]
     refine callK_of (doneD hS (q4.fr fy) ((hw.fr f1).fr fy) hk.rise (by omega)) ?_
     rintro r g2 ⟨⟨a2,rfl,ha2,hn2'⟩,f2⟩
     have oa2:=ha2.ln.2.2
     have om2:=oa2
     unfold oneA at om2
     have f12:=f1.trans (fy.trans f2)
     have hdl:doneP s.L l=doneP s.L (lastD l):=(done_last hk.rise l).symm
     rw [hdl] at ha2
     obtain ⟨nv',q1',q2',q3',q4',q5'⟩:=hc1.fr f12
     obtain ⟨nw',p1',p2',p3',p4',p5'⟩:=hc2.fr f12
     have hidA:∀id o n z c,a2=.sl id o n z c→C id=0∧n2<id:=fun id o n z c hh=>by
      rcases hn2' id o n z c hh with h7 | h7
      ·exact q5 id o n z c (h7.symm.trans hh)
      ·have h8:g1.nx+7≤id:=h7
       have h9:n2<gy.nx:=hc2.elim fun _ hh=>hh.2.1
       have:=f1.nx
       exact ⟨d.tc id (by omega),by omega⟩
     generalize hg3:g2.put n2 (.cells [a2] true false)=g3
     have hcn2:Cc C g3 n2 n2 (doneP s.L (lastD l)):=hg3▸Cc.set ha2 p2' p3' (Nat.le_refl _) hidA
     have hcn1:Cc C g3 n1 n2 s.L:=hg3▸(hc1.fr f12).put hn12.1.symm (Nat.le_refl _)
     have d3:D2 g g3 C (D12 n1 n2):=hg3▸(d.more f12).putD (d12b n1 n2)
     have hs3:SA C g3 pt L Qa pD gr s.l s.T tv:=hg3▸(hs.fr f12).putD (d.more f12) (d12b n1 n2)
     have ht3:TpA (fun j=>C j+D12 n1 n2 j) g3 tv t:=hg3▸tpPut (htv.fr f12) (by have:=d12b n1 n2;show C n2+D12 n1 n2 n2≠0;omega) _
     obtain ⟨id5,cs5,w5,e5,hgi3,hcw3,hw3⟩:=(hx0.fr d3.fr).at hli
     cases e5
     have ow3:=hw3.ln.2.2
     try simp -dsimp (disch:=(repeat first | rw [nxn] | rw [nxp]);try omega) only [go_sem,q1',p1',om2,oa2,hg3,v0,v1,v3,v4,v12,v13,v14,v15,v16,v17]
     have hid3:id<g3.nx:=by rw [←hg3];show id<g2.nx;have:=f12.nx;omega
     obtain ⟨v,g4',ha4,f4',hz4,ov4⟩:=appP (h0:=g3) (h:=g3.new (.cells [] true true)) (m:=l) (ez0 g3) (hw3.fr (Fr.new _ _)) (Fr.new _ _) (by simp;omega)
     rw [List.nil_append] at hz4
     have hgi4:(g3.new (.cells [] true true)).get id=_:=((Fr.new g3 (.cells [] true true)).get id hid3).trans hgi3
     try simp -dsimp (disch:=(repeat first | rw [nxn] | rw [nxp]);try omega) only [go_sem,v0,v1,v3,v4,v12,v13,v14,v15,v16,v17,hil,hgi4,hcw3,ow3,Nat.mul_one,ha4,ov4]
     have d4':=d3.more f4'
     have hs4:=hs3.fr f4'
     have ht4:=ht3.fr f4'
     obtain ⟨c,φ,ii,fs,st,nn,e1,e2,e3,e4,e5⟩:=hk.st
     have hkl:=hk.len
     have hPa:Fit (allE s.L):=fit_allV hk.sm hk.vs hk.rise (by omega) (by omega)
     obtain ⟨a1,a2',a3,a4⟩:=hk.all (by omega) hPa
     have hbm:Bm 1 c s.T:=by rw [e2];exact wg_bm
     have hbmX:=Bm.batX (p:=pD) (q:=tmpS++pD) (gr:=gr) (b:=l) hbm
     obtain ⟨eb,s',hbe,hbr⟩:=hk.bat (p:=pD) (q:=tmpS++pD) (gr:=gr) (b:=l) (by omega) pDne nl wl1 (hb0 l hlm) he (fit_rec gl) hPa
     have hsz:s.l.size=(frs a).length∧s.l.n≤k+1:=by rw [e1];exact ⟨rfl,e5⟩
     have hbat:=batchC hS.toSw (s:=s) (J:=fun j=>C j+D12 n1 n2 j) hs4 pDok (n:=1) (c:=c) hbm (by decide) (by omega) (by omega) (by omega) ht4 (fun j hj=>by show C j+D12 n1 n2 j≠0;omega) d4'.top hit hk.rise (by rw [Tp.size_eq,hit];omega) (by omega) (Ps.of hz4) (fun id o n z c hh=>d3.tc id (ezGe hz4 hh)) (b:=l) (by omega) gl.pl (by omega) gl.by (fun _=>⟨hk.vs,by omega,a3⟩)
     rw [hbe] at hbat hbmX
     dsimp only at hbat hbmX
     refine callK_of hbat ?_
     rintro r g8 ⟨rfl,C8,tv8,t8,hs8,gr8,ht8,hi8,_⟩
     have d8:=d4'.gr gr8 hs8.top
     have hcn28:=(hcn2.fr f4').gr gr8
     have hcn18:=(hcn1.fr f4').gr gr8
     have hdn:=hk.sm.done (m:=lastD l) fun p hp=>⟨rec_no he p (last_mem hp),hb0 l hlm p (last_mem hp)⟩
     have hdl2:=hdn.len
     have hll:=last_len l
     rcases hbr with ⟨rfl,hsL,a',hk'⟩ | ⟨hne,hcx⟩
     ·obtain ⟨nw,r1,r2,r3,r4,r5⟩:=hcn28
      have onw:=r4.ln.2.2
      have omw:=onw
      unfold oneA at omw
      obtain ⟨nx,x1,x2,x3,x4,x5⟩:=hcn18
      try simp -dsimp (disch:=(repeat first | rw [nxn] | rw [nxp]);try omega) only [go_sem,v0,v1,v3,v4,v12,v13,v14,v15,v16,v17,r1,onw,omw,x1]
      have hK:Ki g pt Qa n1 n2 gr (i+1) (g8.put n1 (.cells [nw] true false)):=by
       refine ⟨C8,L,tv8,t8,s',a',k+1,hs8.putD d8 (d12a n1 n2),d8.putD (d12a n1 n2),tpPut (tp2 ht8) (by have:=d12a n1 n2;show C8 n1+D12 n1 n2 n1≠0;omega) _,hi8,hk',by omega,?_,doneP s.L (lastD l),Cc.put ⟨nw,r1,r2,r3,r4,r5⟩ hn12.1 hn12.2⟩
       rw [hsL]
       exact Cc.set r4 x2 x3 hn12.2 r5
      exact ⟨Ls.length-(i+1),by omega,trivial,trivial,trivial,trivial,trivial,trivial,trivial,trivial,trivial,trivial,i+1,rfl,by omega,rfl,hK⟩
     ·have cne:¬((eb:Nat):Int)=0:=by omega
      have hKf:Kf g pt n1 n2 g8:=⟨C8,s'.T,s.L,doneP s.L (lastD l),7,c+8,hs8.ta,d8,hcx,hbmX,by decide,by omega,by omega,by omega,hcn18,hcn28⟩
      try simp -dsimp (disch:=(repeat first | rw [nxn] | rw [nxp]);try omega) only [go_sem,cne,v0,v1,v3,v4,v12,v13,v14,v15,v16,v17]
      first | exact ⟨trivial,trivial,trivial,trivial,trivial,trivial,trivial,trivial,eb,rfl,.inr ⟨hne,hKf⟩⟩ | exact ⟨eb,rfl,.inr ⟨hne,hKf⟩⟩
    ·have:i=Ls.length:=by omega
     subst this
     obtain ⟨C,L,tv,t,s,a,k,q1,q2,q3,q4,q5,q6,q7⟩:=hI
     have hI':Ki g pt Qa n1 n2 gr 60 gy:=⟨C,L,tv,t,s,a,k,q1,q2,q3,q4,q5,by omega,q7⟩
     try simp -dsimp (disch:=(repeat first | rw [nxn] | rw [nxp]);try omega) only [go_sem,c1,v0,v1,v3,v4,v12,v13,v14,v15,v16,v17,lv0]
     first | exact ⟨trivial,trivial,trivial,trivial,trivial,trivial,trivial,trivial,0,rfl,.inl ⟨rfl,hI'⟩⟩ | exact ⟨0,rfl,.inl ⟨rfl,hI'⟩⟩
   ·simp -dsimp (disch:=(repeat first | rw [nxn] | rw [nxp]);try omega) only [go_sem,v0,v1,v2,v3,v4]
    subst hn2
    subst hn1
    repeat' (refine And.intro (by first | trivial | rfl) ?_)
    exact ⟨0,rfl,Nat.zero_le _,rfl,hI0⟩
   ·rintro ex ⟨tt,gy,d⟩ ⟨e2,rfl,v1,v3,v4,v12,v15,v16,e,v13,hfin⟩
    dsimp only at e2 v1 v3 v4 v12 v13 v15 v16 hfin
    subst e2
    rcases hfin with ⟨rfl,hI⟩ | ⟨hne,hKf⟩
    obtain ⟨C,L,tv,t,s,a,k,hs,d,htv,hit,hk,hki,hc1,M2,hc2⟩:=hI
    obtain ⟨nw,r1,r2,r3,r4,r5⟩:=hc1
    have onw:=r4.ln.2.2
    have omw:=onw
    unfold oneA at omw
    obtain ⟨nx,x1,x2,x3,x4,x5⟩:=hc2
    obtain ⟨c,φ,ii,fs,st,nn,e1,e2,e3,e4,e5⟩:=hk.st
    have hbm:Bm 1 c s.T:=by rw [e2];exact wg_bm
    have hsl:=hk.sm.len
    have hKf:Kf g pt n1 n2 (gy.put n2 (.cells [nw] true false)):=⟨C,s.T,s.L,s.L,1,c,(hs.putD d (d12b n1 n2)).ta,d.putD (d12b n1 n2),hk.cx hki (fit_allV hk.sm hk.vs hk.rise (by omega) (by omega)) _,hbm,by decide,by omega,by omega,by omega,Cc.put ⟨nw,r1,r2,r3,r4,r5⟩ hn12.1.symm (Nat.le_refl _),Cc.set r4 x2 x3 (Nat.le_refl _) r5⟩
    try simp -dsimp (disch:=(repeat first | rw [nxn] | rw [nxp]);try omega) only [go_sem,v1,v3,v4,v12,v13,v15,v16,r1,onw,omw,x1]
    generalize hgz:gy.put n2 (.cells [nw] true false)=gz at hKf ⊢
    have nz0:gy.nx=gz.nx:=by rw [←hgz];rfl
    try rw [nz0]
    rotate_left
    have cne:¬((e:Nat):Int)=0:=by omega
    try simp -dsimp (disch:=(repeat first | rw [nxn] | rw [nxp]);try omega) only [go_sem,cne,v1,v3,v4,v12,v13,v15,v16]
    obtain ⟨gz,hgz,hKf⟩:∃gz,gz=gy∧Kf g pt n1 n2 gz:=⟨gy,rfl,hKf⟩
    subst hgz
    rotate_left
    all_goals
     obtain ⟨C,T,L,L',n,c,hT,d,hx,hb,hn,hc,hl,hl',c1,c2⟩:=hKf
     obtain ⟨K,nm,sm,chv,ρ,hTr,hC⟩:=hT.tr
     have pz:Iv K gz vp ps:=Iv.of hp d.fr fun j hj=>Decidable.byContradiction fun hh=>hC j hh (d.oc j hj)
     obtain ⟨w4,h4,ha4,f4,iv4,ow4⟩:=pz.own (by omega) hTr.top
     try simp -dsimp (disch:=(repeat first | rw [nxn] | rw [nxp]);try omega) only [go_sem,v1,v3,v4,v12,v15,v16,op,ha4,ow4]
     refine callK_of (crashE hS.wl.toSt (hTr.fr f4) (Bm.sm hb (by omega) (by omega)) (by have:=hb.clock;omega) keep iv4 (Nat.le_trans (Go.Abs.Wal.keepT_len hb _) (by omega)) (T':=crashT T keep ps) rfl) ?_
     rintro r h5 ⟨rfl,hres⟩
     obtain ⟨C5,hT5,g5⟩:=TA.res hC (fun j hj=>d.tc j (Nat.le_trans f4.nx hj)) hres
     have d5:=(d.more f4).gr g5 hT5.top
     have hb5:=hb.crash keep ps
     obtain ⟨s,l6,T6,T7,l7,Lr,o6,o7,z6,z7,aw,hLr,hsl⟩:=hx.opens pDne pDlt (fun x hx=>by have:=hx.len;omega) keep ps
     try simp -dsimp (disch:=(repeat first | rw [nxn] | rw [nxp]);try omega) only [go_sem,v1,v3,v4,v12,v15,v16,pDb]
     refine callK_of (openS hS.toSw (J:=fun j=>C5 j+D12 n1 n2 j) hT5 (fun j hj=>by show C5 j+D12 n1 n2 j≠0;omega) d5.top hb5 (by omega) (by omega) pDok (fun i hi=>Nat.le_trans (z6 i hi) (by decide)) (gr:=gr) o6 aw.tel hsl aw.p (fun i=>Nat.le_trans (aw.it i) (by decide))) ?_
     rintro r h6 ⟨C6,L6,Q6,tv6,t6,rfl,hs6,gr6,_,_,ht6,hi6,hr6,hH6⟩
     have d6:=d5.gr gr6 hs6.top
     have ht6':=tp2 ht6
     have c16:=((c1.fr f4).gr g5).gr gr6
     have c26:=((c2.fr f4).gr g5).gr gr6
     obtain ⟨K6,nm6,sm6,ch6,ρ6,hT6,hC6,kL,kQ⟩:=hs6.tr
     have hb6:=hb5.open pD (tmpS++pD)
     rw [o6] at hb6
     have zK:∀j,C6 j=0→K6 j=0:=fun j hj=>Decidable.byContradiction fun hh=>hC6 j hh hj
     try simp -dsimp (disch:=(repeat first | rw [nxn] | rw [nxp]);try omega) only [go_sem,v1,v3,v4,v12,v15,v16,pDb]
     refine callK_of (openS hS.toSw (J:=fun j=>C6 j+D12 n1 n2 j) (⟨⟨K6,nm6,sm6,ch6,ρ6,hT6,fun j hj=>hj⟩,hT6.top⟩:TA K6 h6 pt T6) (fun j hj=>by have:=hC6 j hj;show C6 j+D12 n1 n2 j≠0;omega) d6.top hb6 (by omega) (by omega) pDok (fun i hi=>Nat.le_trans (z7 i hi) (by decide)) (gr:=gr) o7 aw.tel hsl aw.p (fun i=>Nat.le_trans (aw.it i) (by decide))) ?_
     rintro r h7 ⟨C7,L7,Q7,tv7,t7,rfl,hs7,gr7,_,_,ht7,hi7,hr7,hH7⟩
     obtain rfl:t7=t6:=hp_uniq (hi7.trans hi6.symm) (hi7▸hr7) hH7 hH6
     have ht67:=tpGr (J:=fun j=>C6 j+D12 n1 n2 j) (fun j hj=>by have:=hC6 j hj;show C6 j+D12 n1 n2 j≠0;omega) gr7 ht6'
     have hq6:=hs6.qcc.gr gr7 kQ
     have hq7:=hs7.qcc
     obtain ⟨u1,a1,a2,_,a3,_⟩:=(c16.mono zK).gr gr7
     obtain ⟨u2,b1,b2,_,b3,_⟩:=(c26.mono zK).gr gr7
     have o1:=a3.ln.2.2
     have m1:=o1
     unfold oneA at m1
     have o2:=b3.ln.2.2
     have m2:=o2
     unfold oneA at m2
     have hsz:t7.size≤100000:=by rw [Tp.size_eq,hi6];rcases hLr with rfl | rfl <;> omega
     have oT6:=ht67.one.1
     have mT6:=oT6
     unfold oneA at mT6
     have oT7:=ht7.one.1
     have mT7:=oT7
     unfold oneA at mT7
     have sT6:=svT ht67.shape
     have sT7:=svT ht7.shape
     have sp1:=svPs a3
     have sp2:=svPs b3
     try simp -dsimp (disch:=(repeat first | rw [nxn] | rw [nxp]);try omega) only [go_sem,v1,v3,v4,v12,v15,v16]
     refine syDraw.keep (fun j=>j=n1∨j=n2) (by kernel_rfl) (by kernel_rfl) ?_
     have fx:Fr h7 { tr:=h7.tr,nx:=h7.nx+28 }:=(Fr.refl h7).more _ (by omega)
     simp -dsimp (disch:=(repeat first | rw [nxn] | rw [nxp]);try omega) only [go_sem,v15,v16,true_and,true_or,or_true,implies_true,svi,svb,svs,svq]
     refine callK_of (stableC hS.toSw (hq6.fr fx) (ht67.fr fx)) ?_
     rintro r h8 ⟨rfl,f8⟩
     have f78:=fx.trans f8
     have n8:=f78.nx
     have n8':h7.nx+28≤h8.nx:=f8.nx
     refine ⟨fun j hj=>f8.get j (by show j<h7.nx+28;omega),?_⟩
     have a18:h8.get n1=_:=(f78.get _ a2).trans a1
     simp -dsimp (disch:=(repeat first | rw [nxn] | rw [nxp]);try omega) only [go_sem,a18,o1,m1,sp1,oT6,mT6,sT6,v15,v16,true_and,true_or,or_true,implies_true,svi,svb,svs,svq]
     refine callK_of (sameB hS (ht67.fr f78) (a3.fr f78) hsz (by omega)) ?_
     rintro r h9 ⟨⟨b,rfl,hb9⟩,f9⟩
     have f79:=f78.trans f9
     have n9:=f9.nx
     refine ⟨fun j hj=>f9.get j (by omega),?_⟩
     cases b
     have hLr2:Lr=L':=hLr.resolve_left fun hh=>by have:=hb9 (hi6.trans hh);cases this
     simp -dsimp (disch:=(repeat first | rw [nxn] | rw [nxp]);try omega) only [go_sem,v15,v16,true_and,true_or,or_true,implies_true,svi,svb,svs,svq]
     refine callK_of (stableC hS.toSw (hq6.fr f79) (ht67.fr f79)) ?_
     rintro r h10 ⟨rfl,f10⟩
     have f710:=f79.trans f10
     have n10:=f10.nx
     refine ⟨fun j hj=>f10.get j (by omega),?_⟩
     have b110:h10.get n2=_:=(f710.get _ b2).trans b1
     simp -dsimp (disch:=(repeat first | rw [nxn] | rw [nxp]);try omega) only [go_sem,b110,o2,m2,sp2,oT6,mT6,sT6,v15,v16,true_and,true_or,or_true,implies_true,svi,svb,svs,svq]
     refine callK_of (sameB hS (ht67.fr f710) (b3.fr f710) hsz (by omega)) ?_
     rintro r h11 ⟨⟨b,rfl,hb11⟩,f11⟩
     obtain rfl:b=true:=hb11 (hi6.trans hLr2)
     have fz:=f710.trans f11
     have n11:=f11.nx
     refine ⟨fun j hj=>f11.get j (by omega),?_⟩
     simp (maxSteps:=1000000) -dsimp (disch:=(repeat first | rw [nxn] | rw [nxp]);try omega) only [go_sem,v15,v16,true_and,true_or,or_true,implies_true,svi,svb,svs,svq]
     have hz:=fz
     rotate_left
     simp (maxSteps:=1000000) -dsimp (disch:=(repeat first | rw [nxn] | rw [nxp]);try omega) only [go_sem,v15,v16,true_and,true_or,or_true,implies_true,svi,svb,svs,svq]
     have fz:=f79
     have n11:h9.nx≤h9.nx:=Nat.le_refl _
     obtain ⟨h11,hh11,fz⟩:∃h11,h11=h9∧Fr h7 h11:=⟨h9,rfl,fz⟩
     subst hh11
     rotate_left
     all_goals
      have nz:=fz.nx
      refine callK_of (stableC hS.toSw (hq6.fr fz) (ht67.fr fz)) ?_
      rintro r h12 ⟨rfl,f12⟩
      have n12:=f12.nx
      have fz12:=fz.trans f12
      refine ⟨fun j hj=>f12.get j (by omega),?_⟩
      try simp -dsimp (disch:=(repeat first | rw [nxn] | rw [nxp]);try omega) only [go_sem,oT6,mT6,sT6,v15,v16,true_and,true_or,or_true,implies_true,svi,svb,svs,svq]
      refine callK_of (nodesC hS.toSw (ht67.fr fz12) hsz) ?_
      rintro w13 h13 ⟨hw13,f13,_⟩
      have n13:=f13.nx
      have fz13:=fz12.trans f13
      refine ⟨fun j hj=>f13.get j (by omega),?_⟩
      obtain ⟨_,s13,o13⟩:=hw13.ln
      try simp -dsimp (disch:=(repeat first | rw [nxn] | rw [nxp]);try omega) only [go_sem,o13,s13,v15,v16,true_and,true_or,or_true,implies_true,svi,svb,svs,svq]
      refine callK_of (stableC hS.toSw (hq7.fr fz13) (ht7.fr fz13)) ?_
      rintro r h14 ⟨rfl,f14⟩
      have n14:=f14.nx
      have fz14:=fz13.trans f14
      refine ⟨fun j hj=>f14.get j (by omega),?_⟩
      try simp -dsimp (disch:=(repeat first | rw [nxn] | rw [nxp]);try omega) only [go_sem,oT7,mT7,sT7,o13,s13,v15,v16,true_and,true_or,or_true,implies_true,svi,svb,svs,svq]
      refine callK_of (nodesC hS.toSw (ht7.fr fz14) hsz) ?_
      rintro w15 h15 ⟨hw15,f15,_⟩
      have n15:=f15.nx
      refine ⟨fun j hj=>f15.get j (by omega),?_⟩
      obtain ⟨_,s15,o15⟩:=hw15.ln
      try simp -dsimp (disch:=(repeat first | rw [nxn] | rw [nxp]);try omega) only [go_sem,o13,s13,o15,s15,v15,v16,true_and,true_or,or_true,implies_true,svi,svb,svs,svq]
      have hpl:(pf (nodT t7)).length≤1000000:=by simp only [pf,List.length_map];rw [nod_len];omega
      refine callK_of (pairsB hS.toSw ((hw13.fr f14).fr f15) hw15 hpl hpl) ?_
      rintro r h16 ⟨⟨b,rfl,hb16⟩,f16⟩
      obtain rfl:=hb16 rfl
      have n16:=f16.nx
      refine ⟨fun j hj=>f16.get j (by omega),?_⟩
      try simp -dsimp (disch:=(repeat first | rw [nxn] | rw [nxp]);try omega) only [go_sem,v15,v16,true_and,true_or,or_true,implies_true,svi,svb,svs,svq]
end
end Go.Proofs.YtaooopaemphfjaaGreatDoor.tbl
end