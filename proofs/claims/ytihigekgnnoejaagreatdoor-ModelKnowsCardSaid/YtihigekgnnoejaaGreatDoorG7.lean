/- Texts joined: MY, MZ, MZa, MZb, MZc, MZd, MZe, MZf, MZg, MZh, MZi, MZj. -/
import Derived.Test.YtihigekgnnoejaaGreatDoorG6
import Derived.Test.YtihigekgnnoejaaGreatDoorAb5
set_option maxRecDepth 100000
set_option linter.unusedVariables false
set_option linter.unusedSimpArgs false
set_option maxHeartbeats 32000000
section
namespace Go.Proofs.YtihigekgnnoejaaGreatDoor.mdl
open Go Go.Abs Go.Proofs
section
variable {S : Sums}
theorem sameRwC (hS:Mp S) {K:Nat→Nat} {h:AH} {ca cb:List AV} {x y:Rw} (hx:Wa K h ca x) (hy:Wa K h cb y):RnC Tryz.prog S 32 [.agg ca,.agg cb] h fun r h'=>r=.bool (decide (x=y))∧Fr h h':=by
 obtain ⟨v,rfl,hv⟩:=hx
 obtain ⟨w,rfl,hw⟩:=hy
 obtain ⟨lv,sv,ov⟩:=hv.ln
 obtain ⟨lw,sw,ow⟩:=hw.ln
 have mv:=oneM ov
 have mw:=oneM ow
 refine RnC.enter' Tryz.f32 _ 17 [.tmp 4] (hS.np _ _ _ (by simp)) bd32 Tryz.func32 rfl rfl rfl ?_
 have f2:Fr h ((h.new (.cells [.str x.folder,v] true false)).new (.cells [.str y.folder,w] true false)):=(Fr.new _ _).news _
 have q1:((h.new (.cells [.str x.folder,v] true false)).new (.cells [.str y.folder,w] true false)).get h.nx=some (.cells [.str x.folder,v] true false):=(AH.get_new_ne (by simp [AH.new])).trans (AH.get_new_eq rfl)
 have q2:((h.new (.cells [.str x.folder,v] true false)).new (.cells [.str y.folder,w] true false)).get (h.nx+1)=some (.cells [.str y.folder,w] true false):=AH.get_new_eq rfl
 by_cases hf:x.folder=y.folder
 ·have hd:decide (x.folder=y.folder)=true:=decide_eq_true hf
  simp -dsimp (disch:=repeat first|rw [nxn]|rw [nxp]|omega) only [go_sem,ov,ow,mv,mw,eqStr,hd]
  refine callK_of (eqInC hS (hv.fr f2) (hw.fr f2)) ?_
  rintro r g2 ⟨rfl,f3⟩
  try simp -dsimp (disch:=repeat first|rw [nxn]|rw [nxp]|omega) only [go_sem,hd]
  refine ⟨?_,f2.trans f3⟩
  cases x;cases y
  simp only at hf
  simp [hf]
 ·have hd:decide (x.folder=y.folder)=false:=decide_eq_false hf
  simp -dsimp (disch:=repeat first|rw [nxn]|rw [nxp]|omega) only [go_sem,ov,ow,mv,mw,eqStr,hd]
  have:¬x=y:=fun hh=>hf (by rw [hh])
  exact ⟨by simp [this],f2⟩
theorem sameMtC (hS:Mp S) {K:Nat→Nat} {h:AH} {ca cb:List AV} {x y:Mt} (hx:Ma K h ca x) (hy:Ma K h cb y):RnC Tryz.prog S 30 [.agg ca,.agg cb] h fun r h'=>r=.bool (decide (x=y))∧Fr h h':=by
 obtain ⟨v,rfl,hv⟩:=hx
 obtain ⟨w,rfl,hw⟩:=hy
 obtain ⟨lv,sv,ov⟩:=hv.ln
 obtain ⟨lw,sw,ow⟩:=hw.ln
 have mv:=oneM ov
 have mw:=oneM ow
 refine RnC.enter' Tryz.f30 _ 17 [.tmp 4] (hS.np _ _ _ (by simp)) bd30 Tryz.func30 rfl rfl rfl ?_
 have f2:Fr h ((h.new (.cells [.int .i64 x.own,v] true false)).new (.cells [.int .i64 y.own,w] true false)):=(Fr.new _ _).news _
 by_cases hf:x.own=y.own
 ·have hd:decide (x.own=y.own)=true:=decide_eq_true hf
  simp -dsimp (disch:=repeat first|rw [nxn]|rw [nxp]|omega) only [go_sem,ov,ow,mv,mw,eqInt,hd]
  refine callK_of (eqRwC hS (hv.fr f2) (hw.fr f2) fun g ca cb a b _ ha hb=>sameRwC hS ha hb) ?_
  rintro r g2 ⟨rfl,f3⟩
  try simp -dsimp (disch:=repeat first|rw [nxn]|rw [nxp]|omega) only [go_sem,hd]
  refine ⟨?_,f2.trans f3⟩
  cases x;cases y
  simp only at hf
  simp [hf]
 ·have hd:decide (x.own=y.own)=false:=decide_eq_false hf
  simp -dsimp (disch:=repeat first|rw [nxn]|rw [nxp]|omega) only [go_sem,ov,ow,mv,mw,eqInt,hd]
  have:¬x=y:=fun hh=>hf (by rw [hh])
  exact ⟨by simp [this],f2⟩
end
deriving instance DecidableEq for Hd
section
variable {S : Sums}
theorem eqHdC (hS:Mp S) {K:Nat→Nat} {h:AH} {v w:AV} {a b:List Hd} {f:FuncId} (hv:Hs K h v a) (hw:Hs K h w b) (hf:∀g ca cb x y,Fr h g→Ha K g ca x→Ha K g cb y→RnC Tryz.prog S f [.agg ca,.agg cb] g fun r g'=>r=.bool (decide (x=y))∧Fr g g'):RnC Tryz.prog S 28 [v,w,.func (.func f) [] []] h fun r h'=>r=.bool (decide (a=b))∧Fr h h':=by
 refine RnC.enter' Tryz.f28 _ 32 [.tmp 6] (hS.np _ _ _ (by simp)) bd28 Tryz.func28 rfl rfl rfl ?_
 obtain ⟨lv,sv,ov⟩:=hv.ln
 obtain ⟨lw,sw,ow⟩:=hw.ln
 have ha:=hv.2
 by_cases hab:((a.length:Nat):Int)=((b.length:Nat):Int)
 case neg =>
  have:¬a=b:=fun hh=>hab (by rw [hh])
  simp -dsimp (disch:=repeat first|rw [nxn]|rw [nxp]|omega) only [go_sem,lv,ov,lw,ow,hab]
  exact ⟨by simp [this],Fr.refl _⟩
 simp -dsimp (disch:=repeat first|rw [nxn]|rw [nxp]|omega) only [go_sem,lv,ov,lw,ow,hab]
 refine loopK_of (RnL.rounds (Q:=fun ex u=>u.d=[]∧Fr h u.h∧(ex=.exit 0∧a=b∨ex=.ret∧u.t.get 6=some (.bool false)∧¬a=b))
  (fun m u=>u.d=[]∧Fr h u.h∧u.t.get 0=some v∧u.t.get 1=some w∧u.t.get 2=some (.func (.func f) [] [])∧u.t.get 15=some v∧u.t.get 16=some (.int .i64 (a.length:Nat))∧∃i:Nat,u.t.get 17=some (.int .i64 (i:Nat))∧i≤a.length∧(a=b↔a.drop i=b.drop i)∧m=a.length-i) ?_ a.length ?_) ?_
 ·rintro m ⟨tt,g,d⟩ ⟨e2,e1,g0,g1,g2,g15,g16,i,g17,hi,hiff,rfl⟩
  dsimp only at e1 e2 g0 g1 g2 g15 g16 g17
  subst e2
  by_cases c4:(i:Int)<(a.length:Nat)
  ·have hil:i<a.length:=by omega
   have hib:i<b.length:=by omega
   obtain ⟨p,hp⟩:∃p,a[i]? = some p:=⟨_,List.getElem?_eq_getElem hil⟩
   obtain ⟨q,hq⟩:∃q,b[i]? = some q:=⟨_,List.getElem?_eq_getElem hib⟩
   obtain ⟨id,off,c,cs,o,tx,x1,d1,pv1,rfl,hgi,hidl,hle,hE,ew,ed,ep,epv,_,_,_,_,_⟩:=(hv.fr e1).el hp
   obtain ⟨id2,off2,cc,cs2,oo,tx2,x2,d2,pv2,rfl,hgi2,hidl2,hle2,hE2,ew2,ed2,ep2,epv2,_,_,_,_,_⟩:=(hw.fr e1).el hq
   have o1:=ew.ln.2.2.2
   have o2:=ed.ln.2.2
   have o3:=ew2.ln.2.2.2
   have o4:=ed2.ln.2.2
   have q1:=oneM o1
   have q2:=oneM o2
   have q3:=oneM o3
   have q4:=oneM o4
   have o5:=epv.ln.2.2
   have o6:=epv2.ln.2.2
   have q5:=oneM o5
   have q6:=oneM o6
   rw [drop_at hp,drop_at hq] at hiff
   have n1:=fun o:AO=>(AH.get_new_ne (h:=g) (o:=o) (Nat.ne_of_lt hidl2)).trans hgi2
   have f1:Fr g ((g.new (.cells [.int .i64 0,.str [],.str [],.str [],.nilsl,.int .i64 0,.bool false,.int .i64 0,.int .i64 0,.nilsl,.nilsl,.int .i64 0] true false)).put g.nx (.cells [.int .i64 p.dev,.str p.folder,.str p.path,.str p.now.path,x1,.int .i64 p.now.own,.bool p.now.gone,.int .i64 p.now.size,.int .i64 p.now.len,d1,pv1,.int .i64 (p.start:Nat)] true false)):=(Fr.new _ _).put _ (Nat.le_refl _)
   have m1:((g.new (.cells [.int .i64 0,.str [],.str [],.str [],.nilsl,.int .i64 0,.bool false,.int .i64 0,.int .i64 0,.nilsl,.nilsl,.int .i64 0] true false)).put g.nx (.cells [.int .i64 p.dev,.str p.folder,.str p.path,.str p.now.path,x1,.int .i64 p.now.own,.bool p.now.gone,.int .i64 p.now.size,.int .i64 p.now.len,d1,pv1,.int .i64 (p.start:Nat)] true false)).get g.nx=some (.cells [.int .i64 p.dev,.str p.folder,.str p.path,.str p.now.path,x1,.int .i64 p.now.own,.bool p.now.gone,.int .i64 p.now.size,.int .i64 p.now.len,d1,pv1,.int .i64 (p.start:Nat)] true false):=AH.get_put_eq rfl
   have m2:=(f1.get _ hidl2).trans hgi2
   have f2:Fr ((g.new (.cells [.int .i64 0,.str [],.str [],.str [],.nilsl,.int .i64 0,.bool false,.int .i64 0,.int .i64 0,.nilsl,.nilsl,.int .i64 0] true false)).put g.nx (.cells [.int .i64 p.dev,.str p.folder,.str p.path,.str p.now.path,x1,.int .i64 p.now.own,.bool p.now.gone,.int .i64 p.now.size,.int .i64 p.now.len,d1,pv1,.int .i64 (p.start:Nat)] true false)) ((((g.new (.cells [.int .i64 0,.str [],.str [],.str [],.nilsl,.int .i64 0,.bool false,.int .i64 0,.int .i64 0,.nilsl,.nilsl,.int .i64 0] true false)).put g.nx (.cells [.int .i64 p.dev,.str p.folder,.str p.path,.str p.now.path,x1,.int .i64 p.now.own,.bool p.now.gone,.int .i64 p.now.size,.int .i64 p.now.len,d1,pv1,.int .i64 (p.start:Nat)] true false)).new (.cells [.int .i64 0,.str [],.str [],.str [],.nilsl,.int .i64 0,.bool false,.int .i64 0,.int .i64 0,.nilsl,.nilsl,.int .i64 0] true false)).put (g.nx+1) (.cells [.int .i64 q.dev,.str q.folder,.str q.path,.str q.now.path,x2,.int .i64 q.now.own,.bool q.now.gone,.int .i64 q.now.size,.int .i64 q.now.len,d2,pv2,.int .i64 (q.start:Nat)] true false)):=(Fr.new _ _).put _ (Nat.le_refl _)
   have m3:=(f2.get g.nx (Nat.lt_succ_self _)).trans m1
   simp -dsimp (disch:=repeat first|rw [nxn]|rw [nxp]|omega) only [go_sem,c4,g0,g1,g2,g15,g16,g17,hil,hib,hgi,hle,hE,o1,o2,o3,o4,q1,q2,q3,q4,o5,o6,q5,q6,m1,m2,hle2,hE2,m3]
   refine callK_of (hf _ _ _ p q (e1.trans (f1.trans f2)) ⟨x1,d1,pv1,rfl,ew.fr (f1.trans f2),ed.fr (f1.trans f2),ep,epv.fr (f1.trans f2)⟩ ⟨x2,d2,pv2,rfl,ew2.fr (f1.trans f2),ed2.fr (f1.trans f2),ep2,epv2.fr (f1.trans f2)⟩) ?_
   rintro r g6 ⟨rfl,f6⟩
   by_cases hpq:p=q
   ·have hd:decide (p=q)=true:=decide_eq_true hpq
    simp -dsimp (disch:=repeat first|rw [nxn]|rw [nxp]|omega) only [go_sem,hd,g0,g1,g2,g15,g16,g17]
    exact ⟨a.length-(i+1),by omega,trivial,(e1.trans (f1.trans f2)).trans f6,trivial,trivial,trivial,trivial,trivial,i+1,rfl,by omega,by rw [hiff];simp [hpq],rfl⟩
   ·have hd:decide (p=q)=false:=decide_eq_false hpq
    simp -dsimp (disch:=repeat first|rw [nxn]|rw [nxp]|omega) only [go_sem,hd,g0,g1,g2,g15,g16,g17]
    exact ⟨trivial,(e1.trans (f1.trans f2)).trans f6,.inr ⟨trivial,trivial,by rw [hiff];simp [hpq]⟩⟩
  ·have:i=a.length:=by omega
   subst this
   simp -dsimp (disch:=repeat first|rw [nxn]|rw [nxp]|omega) only [go_sem,c4,g0,g1,g2,g15,g16,g17]
   exact ⟨trivial,e1,.inl ⟨trivial,hiff.2 (by rw [List.drop_of_length_le (by omega),List.drop_of_length_le (by omega)])⟩⟩
 ·simp -dsimp (disch:=repeat first|rw [nxn]|rw [nxp]|omega) only [go_sem]
  exact ⟨trivial,Fr.refl _,trivial,trivial,trivial,trivial,by first | trivial | rw [hab],0,rfl,Nat.zero_le _,by simp,rfl⟩
 ·rintro ex ⟨tt,g,d⟩ ⟨rfl,e1,⟨rfl,hab'⟩ | ⟨rfl,t4,hab'⟩⟩
  ·dsimp only at e1
   simp -dsimp (disch:=repeat first|rw [nxn]|rw [nxp]|omega) only [go_sem]
   exact ⟨by simp [hab'],e1⟩
  ·dsimp only at e1 t4
   simp -dsimp (disch:=repeat first|rw [nxn]|rw [nxp]|omega) only [go_sem,t4]
   exact ⟨by simp [hab'],e1⟩
end
theorem eqStA (h:AH) (d:Nat) (a b:List Nat):eqA Tryz.prog h (d+1) 9 (.str a) (.str b)=some (decide (a=b)):=by
 unfold eqA;rw [Tryz.underlying9];simp [eqL_eq]
theorem eqKey (h:AH) (a b:Ky):binA Tryz.prog h .eql 75 (.agg [.int .i64 a.1,.str a.2.1,.str a.2.2]) (.agg [.int .i64 b.1,.str b.2.1,.str b.2.2])=some (.bool (decide (a=b))):=by
 have h1:eqOk Tryz.prog 75 (.agg [.int .i64 a.1,.str a.2.1,.str a.2.2]) (.agg [.int .i64 b.1,.str b.2.1,.str b.2.2])=true:=by
  show (!(Tryz.prog.eqGuardType Tryz.prog.depth 75))=true
  kernel_rfl
 have hsi:Tryz.prog.stoodInHeld 75=false:=by kernel_rfl
 have h2:eqA Tryz.prog h (11+1) 75 (.agg [.int .i64 a.1,.str a.2.1,.str a.2.2]) (.agg [.int .i64 b.1,.str b.2.1,.str b.2.2])=some (decide (a=b)):=by
  unfold eqA
  rw [Tryz.underlying75]
  simp only [hsi]
  obtain ⟨a1,a2,a3⟩:=a
  obtain ⟨b1,b2,b3⟩:=b
  by_cases e1:a1=b1 <;> by_cases e2:a2=b2 <;> by_cases e3:a3=b3 <;> simp [eqFs,partA,aggT,tz3,tz9,eqInt,eqStA,e1,e2,e3,Tryz.underlying3,Tryz.underlying9]
 show (if eqOk Tryz.prog 75 (.agg [.int .i64 a.1,.str a.2.1,.str a.2.2]) (.agg [.int .i64 b.1,.str b.2.1,.str b.2.2])=true then (eqA Tryz.prog h (11+1) 75 (.agg [.int .i64 a.1,.str a.2.1,.str a.2.2]) (.agg [.int .i64 b.1,.str b.2.1,.str b.2.2])).map AV.bool else none)=_
 rw [if_pos h1,h2]
 rfl
section
variable {S : Sums}
theorem sameHdC (hS:Mp S) {K:Nat→Nat} {h:AH} {ca cb:List AV} {x y:Hd} (hx:Ha K h ca x) (hy:Ha K h cb y):RnC Tryz.prog S 24 [.agg ca,.agg cb] h fun r h'=>r=.bool (decide (x=y))∧Fr h h':=by
 have hx0:=hx
 have hy0:=hy
 have sx:=hx.sv
 have sy:=hy.sv
 obtain ⟨v,d,pv,rfl,hv,hd,hp,hpv⟩:=hx
 obtain ⟨w,e,pw,rfl,hw,he,hq,hpw⟩:=hy
 have o1:=hv.ln.2.2.2
 have o2:=hd.ln.2.2
 have o3:=hpv.ln.2.2
 have o4:=hw.ln.2.2.2
 have o5:=he.ln.2.2
 have o6:=hpw.ln.2.2
 have s3:=hpv.ln.2.1
 have s6:=hpw.ln.2.1
 have u1:=oneM o1
 have u2:=oneM o2
 have u3:=oneM o3
 have u4:=oneM o4
 have u5:=oneM o5
 have u6:=oneM o6
 refine RnC.enter' Tryz.f24 _ 31 [.tmp 4] (hS.np _ _ _ (by simp)) bd24 Tryz.func24 rfl rfl rfl ?_
 simp -dsimp only [go_sem,o1,o2,o3,o4,o5,o6,u1,u2,u3,u4,u5,u6]
 generalize hg:((h.new (.cells [.int .i64 x.dev,.str x.folder,.str x.path,.str x.now.path,v,.int .i64 x.now.own,.bool x.now.gone,.int .i64 x.now.size,.int .i64 x.now.len,d,pv,.int .i64 (x.start:Nat)] true false)).new (.cells [.int .i64 y.dev,.str y.folder,.str y.path,.str y.now.path,w,.int .i64 y.now.own,.bool y.now.gone,.int .i64 y.now.size,.int .i64 y.now.len,e,pw,.int .i64 (y.start:Nat)] true false))=g
 have n1:g.nx=h.nx+2:=by rw [←hg];rfl
 have f1:Fr h g:=by rw [←hg];exact (Fr.new _ _).news _
 have q1:g.get h.nx=some (.cells [.int .i64 x.dev,.str x.folder,.str x.path,.str x.now.path,v,.int .i64 x.now.own,.bool x.now.gone,.int .i64 x.now.size,.int .i64 x.now.len,d,pv,.int .i64 (x.start:Nat)] true false):=by rw [←hg];exact (AH.get_new_ne (by simp [AH.new])).trans (AH.get_new_eq rfl)
 have q2:g.get (h.nx+1)=some (.cells [.int .i64 y.dev,.str y.folder,.str y.path,.str y.now.path,w,.int .i64 y.now.own,.bool y.now.gone,.int .i64 y.now.size,.int .i64 y.now.len,e,pw,.int .i64 (y.start:Nat)] true false):=by rw [←hg];exact AH.get_new_eq rfl
 refine syDraw.keep (fun j=>j=h.nx∨j=h.nx+1) (by kernel_rfl) (by kernel_rfl) ?_
 have fx:Fr g { tr:=g.tr,nx:=g.nx+27 }:=(Fr.refl g).more _ (by omega)
 have f1x:=f1.trans fx
 simp -dsimp only [go_sem,q1,q2,sx,sy,o1,o2,o3,o4,o5,o6,true_and,true_or,or_true,implies_true,svi,svb,svs,svp]
 refine callK_of (keyOfC hS.toMk (hx0.gk (f1x.gk K))) ?_
 rintro r g2 ⟨rfl,f2⟩
 refine ⟨fun j' hj'=>f2.get j' (by show j'<g.nx+27;rcases hj' with rfl | rfl <;> omega),?_⟩
 have q12:=(f2.get h.nx (by show h.nx<g.nx+27;omega)).trans q1
 have q22:=(f2.get (h.nx+1) (by show h.nx+1<g.nx+27;omega)).trans q2
 simp -dsimp only [go_sem,q12,q22,sx,sy,o1,o2,o3,o4,o5,o6,true_and,true_or,or_true,implies_true,svi,svb,svs,svp]
 have eqk:∀g,binA Tryz.prog g .eql 75 (.agg [.int .i64 x.dev,.str x.folder,.str x.path]) (.agg [.int .i64 y.dev,.str y.folder,.str y.path])=some (.bool (decide (x.key=y.key))):=fun g=>eqKey g x.key y.key
 refine callK_of (keyOfC hS.toMk (hy0.gk ((f1x.trans f2).gk K))) ?_
 rintro r g3 ⟨rfl,f3⟩
 refine ⟨fun j' hj'=>f3.get j' (by have:=f2.nx;dsimp only at this;rcases hj' with rfl | rfl <;> omega),?_⟩
 have n2:g.nx+27≤g2.nx:=f2.nx
 have q13:=(f3.get h.nx (by omega)).trans q12
 have q23:=(f3.get (h.nx+1) (by omega)).trans q22
 have f13:=(f1x.trans f2).trans f3
 have hrx:Ra K h [.str x.now.path,v,.int .i64 x.now.own,.bool x.now.gone,.int .i64 x.now.size,.int .i64 x.now.len,d] x.now:=⟨v,d,rfl,hv,hd,hp⟩
 have hry:Ra K h [.str y.now.path,w,.int .i64 y.now.own,.bool y.now.gone,.int .i64 y.now.size,.int .i64 y.now.len,e] y.now:=⟨w,e,rfl,hw,he,hq⟩
 have srx:=hrx.sv
 have sry:=hry.sv
 by_cases hk:x.key=y.key
 case neg =>
  have hkd:decide (x.key=y.key)=false:=decide_eq_false hk
  simp -dsimp only [go_sem,eqk,hkd,q13,q23,true_and,true_or,or_true,implies_true,svi,svb,svs,svp]
  have:¬x=y:=fun hh=>hk (by rw [hh])
  exact ⟨by simp [this],f13⟩
 have hkd:decide (x.key=y.key)=true:=decide_eq_true hk
 by_cases hst:((x.start:Nat):Int)=((y.start:Nat):Int)
 case neg =>
  simp -dsimp only [go_sem,eqk,hkd,hst,q13,q23,true_and,true_or,or_true,implies_true,svi,svb,svs,svp]
  have:¬x=y:=fun hh=>hst (by rw [hh])
  exact ⟨by simp [this],f13⟩
 simp -dsimp only [go_sem,eqk,hkd,hst,q13,q23,srx,sry,true_and,true_or,or_true,implies_true,svi,svb,svs,svp]
 refine callK_of (recSameC hS.toMr (hrx.fr f13) (hry.fr f13)) ?_
 rintro r g4 ⟨rfl,f4⟩
 have n3:=f3.nx
 refine ⟨fun j' hj'=>f4.get j' (by rcases hj' with rfl | rfl <;> omega),?_⟩
 have q14:=(f4.get h.nx (by omega)).trans q13
 have q24:=(f4.get (h.nx+1) (by omega)).trans q23
 by_cases hsm:sameR x.now y.now=true
 case neg =>
  rw [Bool.not_eq_true] at hsm
  simp -dsimp only [go_sem,hkd,hst,hsm,q14,q24,true_and,true_or,or_true,implies_true,svi,svb,svs,svp]
  have:¬x=y:=fun hh=>by rw [hh,sameR_iff.2 rfl] at hsm;cases hsm
  exact ⟨by simp [this],f13.trans f4⟩
 simp -dsimp only [go_sem,hkd,hst,hsm,q14,q24,s3,s6,true_and,true_or,or_true,implies_true,svi,svb,svs,svp]
 refine callK_of (eqRcC hS (hpv.fr (f13.trans f4)) (hpw.fr (f13.trans f4)) fun g ca cb a b _ ha hb=>(recSameC hS.toMr ha hb).mono fun r g' hr=>⟨by rw [hr.1];by_cases hab:a=b;rw [decide_eq_true hab,sameR_iff.2 hab];rw [decide_eq_false hab];cases hsab:sameR a b;rfl;exact (hab (sameR_iff.1 hsab)).elim,hr.2⟩) ?_
 rintro r g5 ⟨rfl,f5⟩
 have n4:=f4.nx
 refine ⟨fun j' hj'=>f5.get j' (by rcases hj' with rfl | rfl <;> omega),?_⟩
 try simp -dsimp only [go_sem,hkd,hst,hsm,true_and,true_or,or_true,implies_true,svi,svb,svs,svp]
 refine ⟨?_,(f13.trans f4).trans f5⟩
 have e1:=sameR_iff.1 hsm
 have e2:x.start=y.start:=by omega
 unfold Hd.key at hk
 cases x;cases y
 simp only [Prod.mk.injEq] at hk e1 e2
 simp [hk.1,hk.2.1,hk.2.2,e1,e2]
end
section
variable {S : Sums}
theorem sameMdC (hS:Mp S) {K:Nat→Nat} {h:AH} {hv sv hw sw:AV} {a b:List Hd} {m n:List Mt} (ha:Hs K h hv a) (hm:Ms K h sv m) (hb:Hs K h hw b) (hn:Ms K h sw n):RnC Tryz.prog S 8 [.agg [hv,sv],.agg [hw,sw]] h fun r h'=>r=.bool (decide (a=b)&&decide (m=n))∧Fr h h':=by
 obtain ⟨_,s1,o1⟩:=ha.ln
 obtain ⟨_,s2,o2⟩:=hm.ln
 obtain ⟨_,s3,o3⟩:=hb.ln
 obtain ⟨_,s4,o4⟩:=hn.ln
 have u1:=oneM o1
 have u2:=oneM o2
 have u3:=oneM o3
 have u4:=oneM o4
 refine RnC.enter' Tryz.f8 _ 19 [.tmp 4] (hS.np _ _ _ (by simp)) bd8 Tryz.func8 rfl rfl rfl ?_
 simp -dsimp only [go_sem,o1,o2,o3,o4,u1,u2,u3,u4]
 generalize hg:((h.new (.cells [hv,sv] true false)).new (.cells [hw,sw] true false))=g
 have n1:g.nx=h.nx+2:=by rw [←hg];rfl
 have f1:Fr h g:=by rw [←hg];exact (Fr.new _ _).news _
 have q1:g.get h.nx=some (.cells [hv,sv] true false):=by rw [←hg];exact (AH.get_new_ne (by simp [AH.new])).trans (AH.get_new_eq rfl)
 have q2:g.get (h.nx+1)=some (.cells [hw,sw] true false):=by rw [←hg];exact AH.get_new_eq rfl
 try simp -dsimp only [go_sem,q1,q2,o1,o2,o3,o4]
 refine callK_of (eqHdC hS (ha.fr f1) (hb.fr f1) fun g ca cb x y _ hx hy=>sameHdC hS hx hy) ?_
 rintro r g2 ⟨rfl,f2⟩
 have q12:=(f2.get h.nx (by omega)).trans q1
 have q22:=(f2.get (h.nx+1) (by omega)).trans q2
 by_cases hab:a=b
 ·have hd:decide (a=b)=true:=decide_eq_true hab
  simp -dsimp only [go_sem,hd,q12,q22,o1,o2,o3,o4]
  refine callK_of (eqMtC hS ((hm.fr f1).fr f2) ((hn.fr f1).fr f2) fun g ca cb x y _ hx hy=>sameMtC hS hx hy) ?_
  rintro r g3 ⟨rfl,f3⟩
  try simp -dsimp only [go_sem,hd]
  exact ⟨by simp [hab],(f1.trans f2).trans f3⟩
 ·have hd:decide (a=b)=false:=decide_eq_false hab
  simp -dsimp only [go_sem,hd,q12,q22,o1,o2,o3,o4]
  exact ⟨by simp [hab],f1.trans f2⟩
end
structure Mx (S:Sums):Prop extends Mp S where
 nx:∀f args h,f∈[81,80,108,63,82,83,110,61,60,78]→S f args h=none
section
variable {S : Sums}
theorem deviceC (hS:Mx S) {h:AH} (n:Int):RnC Tryz.prog S 81 [.int .i64 n] h fun r h'=>r=.bool (decide (1≤n)&&decide (n≤16))∧h'=h:=by
 refine RnC.enter' Tryz.f81 _ 9 [.tmp 2] (hS.nx _ _ _ (by simp)) bd81 Tryz.func81 rfl rfl rfl ?_
 by_cases h1:1≤n
 ·by_cases h2:n≤16
  ·simp -dsimp only [go_sem,h1,h2]
   exact ⟨by simp [h1,h2],by first | trivial | rfl⟩
  ·simp -dsimp only [go_sem,h1,h2]
   exact ⟨by simp [h1,h2],by first | trivial | rfl⟩
 ·simp -dsimp only [go_sem,h1]
  exact ⟨by simp [h1],by first | trivial | rfl⟩
theorem folder1C (hS:Mx S) {h:AH} (n:Int):RnC Tryz.prog S 108 [.int .i32 n] h fun r h'=>r=.bool (decide (n<97)||decide (122<n))∧h'=h:=by
 refine RnC.enter' Tryz.f108 _ 9 [.tmp 2] (hS.nx _ _ _ (by simp)) bd108 Tryz.func108 rfl rfl rfl ?_
 by_cases h1:n<97
 ·simp -dsimp only [go_sem,h1]
  exact ⟨by simp [h1],by first | trivial | rfl⟩
 ·by_cases h2:122<n
  ·simp -dsimp only [go_sem,h1,h2]
   exact ⟨by simp [h1,h2],by first | trivial | rfl⟩
  ·simp -dsimp only [go_sem,h1,h2]
   exact ⟨by simp [h1,h2],by first | trivial | rfl⟩
end
theorem aiIn:appI Tryz.prog 3=some (1,8):=by kernel_rfl
theorem aiRw:appI Tryz.prog 84=some (2,40):=by kernel_rfl
theorem nilIn (h:AH):binA Tryz.prog h .eql 82 .nilsl .nilsl=some (.bool true):=by kernel_rfl
theorem sliIn (h:AH) (a o n z:Nat) (c:Option Nat):binA Tryz.prog h .eql 82 (.sl a o n z c) .nilsl=some (.bool false):=by kernel_rfl
theorem nilRw (h:AH):binA Tryz.prog h .eql 41 .nilsl .nilsl=some (.bool true):=by kernel_rfl
theorem sliRw (h:AH) (a o n z:Nat) (c:Option Nat):binA Tryz.prog h .eql 41 (.sl a o n z c) .nilsl=some (.bool false):=by kernel_rfl
theorem in_all (l:List Int):(l.flatMap fun i=>[AV.int .i64 i]).all oneA=true:=by
 rw [List.all_eq_true]
 intro x hx
 obtain ⟨a,_,ha⟩:=List.mem_flatMap.1 hx
 simp only [List.mem_cons,List.not_mem_nil,or_false] at ha
 subst ha
 rfl
structure My (S:Sums):Prop extends Mx S where
 ny:∀f args h,f∈[55,54]→S f args h=none
section
variable {S : Sums}
theorem cloneInC (hS:My S) {K:Nat→Nat} {h:AH} {v:AV} {l:List Int} (hv:Iv K h v l) (top:∀j,h.nx≤j→K j=0):RnC Tryz.prog S 55 [v] h fun r h'=>Iv K h' r l∧Fr h h':=by
 refine RnC.enter' Tryz.f55 _ 8 [.tmp 2] (hS.ny _ _ _ (by simp)) bd55 Tryz.func55 rfl rfl rfl ?_
 have hl:=ivc_len l
 have hl2:=hv.2
 rcases flShape hv.1 with ⟨rfl,hm⟩ | ⟨a,o,n,c,rfl⟩
 ·simp -dsimp only [go_sem,nilIn]
  exact ⟨hv,Fr.refl _⟩
 ·obtain ⟨v',h',e1,e2,e3,e4⟩:=Fl.own hv.1 Tryz.underlying82 aiIn (by decide) (in_all l) (by omega) (by omega)
  simp -dsimp only [go_sem,sliIn,e1,e4]
  exact ⟨⟨Fl.of e3 fun id o n c hh=>top id (ezLow e3 hh),hv.2⟩,e2⟩
end
section
variable {S : Sums}
end
structure Mz (S:Sums):Prop extends My S where
 cm:∀a b h,S 166 [.str a,.str b] h=some (.int .i64 (cmpA a b),h)
 nz:∀f args h,f∈[136,152,109]→S f args h=none
section
variable {S : Sums}
theorem compareStrC (hS:Mz S) {h:AH} (a b:List Nat):RnC Tryz.prog S 152 [.str a,.str b] h fun r h'=>r=.int .i64 (cmpA a b)∧h'=h:=by
 refine RnC.enter' Tryz.f152 _ 8 [.tmp 4] (hS.nz _ _ _ (by simp)) bd152 Tryz.func152 rfl rfl rfl ?_
 simp -dsimp only [go_sem]
 refine callK_of (RnC.sum (hS.cm a b h) (Q:=fun v h'=>v=.int .i64 (cmpA a b)∧h'=h) ⟨rfl,rfl⟩) ?_
 rintro r g ⟨rfl,rfl⟩
 try simp -dsimp only [go_sem]
 exact ⟨by first | trivial | rfl,by first | trivial | rfl⟩
theorem strCompareC (hS:Mz S) {h:AH} (a b:List Nat):RnC Tryz.prog S 136 [.str a,.str b] h fun r h'=>r=.int .i64 (cmpA a b)∧h'=h:=by
 refine RnC.enter' Tryz.f136 _ 8 [.tmp 4] (hS.nz _ _ _ (by simp)) bd136 Tryz.func136 rfl rfl rfl ?_
 simp -dsimp only [go_sem]
 refine callK_of (compareStrC hS a b) ?_
 rintro r g ⟨rfl,rfl⟩
 try simp -dsimp only [go_sem]
 exact ⟨by first | trivial | rfl,by first | trivial | rfl⟩
theorem finderC (hS:Mz S) {K:Nat→Nat} {h:AH} {cs:List AV} {x:Rw} (b:List Nat) (hx:Wa K h cs x):RnC Tryz.prog S 110 [.agg [],.agg cs,.str b] h fun r h'=>r=.int .i64 (cmpA x.folder b)∧Fr h h':=by
 obtain ⟨v,rfl,hv⟩:=hx
 obtain ⟨_,_,ov⟩:=hv.ln
 have mv:=oneM ov
 refine RnC.enter' Tryz.f110 _ 11 [.tmp 6] (hS.nx _ _ _ (by simp)) bd110 Tryz.func110 rfl rfl rfl ?_
 simp -dsimp only [go_sem,ov,mv]
 refine callK_of (strCompareC hS x.folder b) ?_
 rintro r g ⟨rfl,rfl⟩
 try simp -dsimp only [go_sem]
 refine ⟨by first | trivial | rfl,?_⟩
 exact (Fr.new _ _).news _
end
def atR (l:List Rw) (b:List Nat) (i:Nat):Int:=match l[i]? with | some x=>cmpA x.folder b | none=>0
def findR (l:List Rw) (b:List Nat):Nat×Bool:=(bsF (atR l b) l.length 0 l.length,decide (bsF (atR l b) l.length 0 l.length<l.length)&&decide (atR l b (bsF (atR l b) l.length 0 l.length)=0))
theorem findR_le (l:List Rw) (b:List Nat):(findR l b).1≤l.length:=(bsF_le _ _ _ _ (Nat.zero_le _)).2
section
variable {S : Sums}
theorem bsRC (hS:Mz S) {K:Nat→Nat} {h:AH} {hv:AV} {l:List Rw} (b:List Nat) (hs:Ws K h hv l):RnC Tryz.prog S 109 [hv,.str b,.func (.func 110) [.agg []] []] h fun r h'=>r=.tup [.int .i64 ((findR l b).1:Nat),.bool (findR l b).2]∧Fr h h':=by
 refine RnC.enter' Tryz.f109 _ 49 [.tmp 6,.tmp 7] (hS.nz _ _ _ (by simp)) bd109 Tryz.func109 rfl rfl rfl ?_
 obtain ⟨lv,sv,ov⟩:=hs.ln
 have hl:=hs.2
 simp -dsimp (disch:=repeat first|rw [nxn]|rw [nxp]|omega) only [go_sem,ov,lv]
 refine loopK_of (RnL.rounds (Q:=fun ex u=>u.d=[]∧Fr h u.h∧ex=.exit 0∧u.t.get 0=some hv∧u.t.get 1=some (.str b)∧u.t.get 2=some (.func (.func 110) [.agg []] [])∧u.t.get 8=some (.int .i64 (l.length:Nat))∧u.t.get 9=some (.int .i64 ((findR l b).1:Nat)))
  (fun m u=>u.d=[]∧Fr h u.h∧u.t.get 0=some hv∧u.t.get 1=some (.str b)∧u.t.get 2=some (.func (.func 110) [.agg []] [])∧u.t.get 8=some (.int .i64 (l.length:Nat))∧∃i j f:Nat,u.t.get 9=some (.int .i64 (i:Nat))∧u.t.get 10=some (.int .i64 (j:Nat))∧i≤j∧j≤l.length∧j-i≤f∧bsF (atR l b) f i j=(findR l b).1∧m=f) ?_ l.length ?_) ?_
 ·rintro m ⟨tt,g,q⟩ ⟨e2,e1,g0,g1,g2,g8,i,j,f,g9,g10,hij,hj,hf,hb,rfl⟩
  dsimp only at e1 e2 g0 g1 g2 g8 g9 g10
  subst e2
  by_cases c4:(i:Int)<(j:Nat)
  ·have hij':i<j:=by omega
   obtain ⟨m,rfl⟩:∃f',m=f'+1:=⟨m-1,by omega⟩
   rw [bsF,if_pos hij'] at hb
   have hm1:(i+j)/2<l.length:=by omega
   obtain ⟨x,hx⟩:∃x,l[(i+j)/2]? = some x:=⟨_,List.getElem?_eq_getElem hm1⟩
   have hat:atR l b ((i+j)/2)=cmpA x.folder b:=by unfold atR;rw [hx]
   rw [hat] at hb
   obtain ⟨id,off,cc,cs,o,t,w,rfl,hgi,hidl,hle,hE,hw⟩:=(hs.fr e1).el hx
   have u1:=fun g=>cvIU g i j (by omega)
   have u2:=fun g=>shU g (i+j)
   have u3:=fun g=>cvUI g ((i+j)/2) (by omega)
   have ow:=hw.ln.2.2
   have hm2:(((i+j)/2:Nat):Int)<(l.length:Nat):=by omega
   simp -dsimp (disch:=repeat first|rw [nxn]|rw [nxp]|omega) only [go_sem,c4,g0,g1,g2,g8,g9,g10,u1,u2,u3,hm1,hm2,hgi,hle,hE,ow]
   refine callK_of (finderC hS b ⟨w,rfl,hw⟩) ?_
   rintro r g3 ⟨rfl,f3⟩
   have e3:=e1.trans f3
   by_cases hc:cmpA x.folder b<0
   ·rw [if_pos hc] at hb
    simp -dsimp (disch:=repeat first|rw [nxn]|rw [nxp]|omega) only [go_sem,hc,g0,g1,g2,g8,g9,g10]
    exact ⟨m,by omega,trivial,e3,trivial,trivial,trivial,trivial,(i+j)/2+1,j,m,rfl,rfl,by omega,hj,by omega,hb,rfl⟩
   ·rw [if_neg hc] at hb
    simp -dsimp (disch:=repeat first|rw [nxn]|rw [nxp]|omega) only [go_sem,hc,g0,g1,g2,g8,g9,g10]
    exact ⟨m,by omega,trivial,e3,trivial,trivial,trivial,trivial,i,(i+j)/2,m,rfl,rfl,by omega,by omega,by omega,hb,rfl⟩
  ·obtain rfl:i=j:=by omega
   have:bsF (atR l b) m i i=i:=by
    cases m with
    | zero=>rfl
    | succ m=>rw [bsF,if_neg (by omega)]
   rw [this] at hb
   simp -dsimp (disch:=repeat first|rw [nxn]|rw [nxp]|omega) only [go_sem,c4,g0,g1,g2,g8,g9,g10]
   exact ⟨trivial,e1,trivial,trivial,trivial,trivial,trivial,by rw [hb]⟩
 ·simp -dsimp (disch:=repeat first|rw [nxn]|rw [nxp]|omega) only [go_sem]
  exact ⟨trivial,Fr.refl _,trivial,trivial,trivial,trivial,0,l.length,l.length,rfl,rfl,Nat.zero_le _,Nat.le_refl _,Nat.le_refl _,rfl,rfl⟩
 ·rintro ex ⟨tt,g,q⟩ ⟨rfl,e1,rfl,g0,g1,g2,g8,g9⟩
  dsimp only at e1 g0 g1 g2 g8 g9
  have hle:=findR_le l b
  by_cases c1:((findR l b).1:Int)<(l.length:Nat)
  ·have hm1:(findR l b).1<l.length:=by omega
   obtain ⟨x,hx⟩:∃x,l[(findR l b).1]? = some x:=⟨_,List.getElem?_eq_getElem hm1⟩
   have hat:atR l b (findR l b).1=cmpA x.folder b:=by unfold atR;rw [hx]
   have hf2:(findR l b).2=decide (cmpA x.folder b=0):=by
    rw [←hat]
    show (decide ((findR l b).1<l.length)&&decide (atR l b (findR l b).1=0))=_
    rw [decide_eq_true hm1]
    rfl
   obtain ⟨id,off,cc,cs,o,t,w,rfl,hgi,hidl,hle2,hE,hw⟩:=(hs.fr e1).el hx
   have ow:=hw.ln.2.2
   rw [hf2]
   generalize (findR l b).1=m at *
   simp -dsimp (disch:=repeat first|rw [nxn]|rw [nxp]|omega) only [go_sem,g0,g1,g2,g8,g9,c1,hm1,hgi,hle2,hE,ow]
   refine callK_of (finderC hS b ⟨w,rfl,hw⟩) ?_
   rintro r g3 ⟨rfl,f3⟩
   by_cases hc:cmpA x.folder b=0
   ·simp -dsimp (disch:=repeat first|rw [nxn]|rw [nxp]|omega) only [go_sem,hc,g0,g1,g2,g8,g9,c1]
    first | exact e1.trans f3 | exact ⟨by simp [hc],e1.trans f3⟩
   ·simp -dsimp (disch:=repeat first|rw [nxn]|rw [nxp]|omega) only [go_sem,hc,g0,g1,g2,g8,g9,c1]
    first | exact e1.trans f3 | exact ⟨by simp [hc],e1.trans f3⟩
  ·have hf2:(findR l b).2=false:=by
    show (decide ((findR l b).1<l.length)&&decide (atR l b (findR l b).1=0))=_
    rw [decide_eq_false (by omega)]
    rfl
   rw [hf2]
   generalize (findR l b).1=m at *
   simp -dsimp (disch:=repeat first|rw [nxn]|rw [nxp]|omega) only [go_sem,g0,g1,g2,g8,g9,c1]
   first | exact e1 | exact ⟨by first | trivial | rfl,e1⟩
end
section
variable {S : Sums}
theorem findRC (hS:Mz S) {K:Nat→Nat} {h:AH} {cs:List AV} {x:Mt} (b:List Nat) (hx:Ma K h cs x):RnC Tryz.prog S 83 [.agg cs,.str b] h fun r h'=>r=.tup [.int .i64 ((findR x.rows b).1:Nat),.bool (findR x.rows b).2]∧Fr h h':=by
 obtain ⟨v,rfl,hv⟩:=hx
 obtain ⟨_,_,ov⟩:=hv.ln
 have mv:=oneM ov
 refine RnC.enter' Tryz.f83 _ 14 [.tmp 4,.tmp 5] (hS.nx _ _ _ (by simp)) bd83 Tryz.func83 rfl rfl rfl ?_
 have f1:Fr h (h.new (.cells [.int .i64 x.own,v] true false)):=Fr.new _ _
 have bl:evBuild Tryz.prog 162 []=some (.agg []):=by kernel_rfl
 simp -dsimp only [go_sem,ov,mv,bl]
 refine callK_of (bsRC hS b (hv.fr f1)) ?_
 rintro r g ⟨rfl,f2⟩
 try simp -dsimp only [go_sem]
 exact ⟨by first | trivial | rfl,f1.trans f2⟩
end
def atM (l:List Mt) (b:Int) (i:Nat):Int:=match l[i]? with | some x=>cmpI x.own b | none=>0
def findM (l:List Mt) (b:Int):Nat×Bool:=(bsF (atM l b) l.length 0 l.length,decide (bsF (atM l b) l.length 0 l.length<l.length)&&decide (atM l b (bsF (atM l b) l.length 0 l.length)=0))
theorem findM_le (l:List Mt) (b:Int):(findM l b).1≤l.length:=(bsF_le _ _ _ _ (Nat.zero_le _)).2
section
variable {S : Sums}
theorem sharesCmpC (hS:Mz S) {K:Nat→Nat} {h:AH} {cs:List AV} {x:Mt} (b:Int) (hx:Ma K h cs x):RnC Tryz.prog S 78 [.agg cs,.int .i64 b] h fun r h'=>r=.int .i64 (cmpI x.own b)∧Fr h h':=by
 obtain ⟨v,rfl,hv⟩:=hx
 obtain ⟨_,_,ov⟩:=hv.ln
 have mv:=oneM ov
 refine RnC.enter' Tryz.f78 _ 9 [.tmp 4] (hS.nk _ _ _ (by simp)) bd78 Tryz.func78 rfl rfl rfl ?_
 simp -dsimp only [go_sem,ov,mv]
 refine callK_of (cmpIC hS.toMk x.own b) ?_
 rintro r g ⟨rfl,rfl⟩
 try simp -dsimp only [go_sem]
 refine ⟨by first | trivial | rfl,?_⟩
 exact Fr.new _ _
theorem bsMC (hS:Mz S) {K:Nat→Nat} {h:AH} {hv:AV} {l:List Mt} (b:Int) (hs:Ms K h hv l):RnC Tryz.prog S 77 [hv,.int .i64 b,.func (.func 78) [] []] h fun r h'=>r=.tup [.int .i64 ((findM l b).1:Nat),.bool (findM l b).2]∧Fr h h':=by
 refine RnC.enter' Tryz.f77 _ 49 [.tmp 6,.tmp 7] (hS.nk _ _ _ (by simp)) bd77 Tryz.func77 rfl rfl rfl ?_
 obtain ⟨lv,sv,ov⟩:=hs.ln
 have hl:=hs.2
 simp -dsimp (disch:=repeat first|rw [nxn]|rw [nxp]|omega) only [go_sem,ov,lv]
 refine loopK_of (RnL.rounds (Q:=fun ex u=>u.d=[]∧Fr h u.h∧ex=.exit 0∧u.t.get 0=some hv∧u.t.get 1=some (.int .i64 b)∧u.t.get 2=some (.func (.func 78) [] [])∧u.t.get 8=some (.int .i64 (l.length:Nat))∧u.t.get 9=some (.int .i64 ((findM l b).1:Nat)))
  (fun m u=>u.d=[]∧Fr h u.h∧u.t.get 0=some hv∧u.t.get 1=some (.int .i64 b)∧u.t.get 2=some (.func (.func 78) [] [])∧u.t.get 8=some (.int .i64 (l.length:Nat))∧∃i j f:Nat,u.t.get 9=some (.int .i64 (i:Nat))∧u.t.get 10=some (.int .i64 (j:Nat))∧i≤j∧j≤l.length∧j-i≤f∧bsF (atM l b) f i j=(findM l b).1∧m=f) ?_ l.length ?_) ?_
 ·rintro m ⟨tt,g,q⟩ ⟨e2,e1,g0,g1,g2,g8,i,j,f,g9,g10,hij,hj,hf,hb,rfl⟩
  dsimp only at e1 e2 g0 g1 g2 g8 g9 g10
  subst e2
  by_cases c4:(i:Int)<(j:Nat)
  ·have hij':i<j:=by omega
   obtain ⟨m,rfl⟩:∃f',m=f'+1:=⟨m-1,by omega⟩
   rw [bsF,if_pos hij'] at hb
   have hm1:(i+j)/2<l.length:=by omega
   obtain ⟨x,hx⟩:∃x,l[(i+j)/2]? = some x:=⟨_,List.getElem?_eq_getElem hm1⟩
   have hat:atM l b ((i+j)/2)=cmpI x.own b:=by unfold atM;rw [hx]
   rw [hat] at hb
   obtain ⟨id,off,cc,cs,o,t,w,rfl,hgi,hidl,hle,hE,hw⟩:=(hs.fr e1).el hx
   have u1:=fun g=>cvIU g i j (by omega)
   have u2:=fun g=>shU g (i+j)
   have u3:=fun g=>cvUI g ((i+j)/2) (by omega)
   have ow:=hw.ln.2.2
   have hm2:(((i+j)/2:Nat):Int)<(l.length:Nat):=by omega
   simp -dsimp (disch:=repeat first|rw [nxn]|rw [nxp]|omega) only [go_sem,c4,g0,g1,g2,g8,g9,g10,u1,u2,u3,hm1,hm2,hgi,hle,hE,ow]
   refine callK_of (sharesCmpC hS b ⟨w,rfl,hw⟩) ?_
   rintro r g3 ⟨rfl,f3⟩
   have e3:=e1.trans f3
   by_cases hc:cmpI x.own b<0
   ·rw [if_pos hc] at hb
    simp -dsimp (disch:=repeat first|rw [nxn]|rw [nxp]|omega) only [go_sem,hc,g0,g1,g2,g8,g9,g10]
    exact ⟨m,by omega,trivial,e3,trivial,trivial,trivial,trivial,(i+j)/2+1,j,m,rfl,rfl,by omega,hj,by omega,hb,rfl⟩
   ·rw [if_neg hc] at hb
    simp -dsimp (disch:=repeat first|rw [nxn]|rw [nxp]|omega) only [go_sem,hc,g0,g1,g2,g8,g9,g10]
    exact ⟨m,by omega,trivial,e3,trivial,trivial,trivial,trivial,i,(i+j)/2,m,rfl,rfl,by omega,by omega,by omega,hb,rfl⟩
  ·obtain rfl:i=j:=by omega
   have:bsF (atM l b) m i i=i:=by
    cases m with
    | zero=>rfl
    | succ m=>rw [bsF,if_neg (by omega)]
   rw [this] at hb
   simp -dsimp (disch:=repeat first|rw [nxn]|rw [nxp]|omega) only [go_sem,c4,g0,g1,g2,g8,g9,g10]
   exact ⟨trivial,e1,trivial,trivial,trivial,trivial,trivial,by rw [hb]⟩
 ·simp -dsimp (disch:=repeat first|rw [nxn]|rw [nxp]|omega) only [go_sem]
  exact ⟨trivial,Fr.refl _,trivial,trivial,trivial,trivial,0,l.length,l.length,rfl,rfl,Nat.zero_le _,Nat.le_refl _,Nat.le_refl _,rfl,rfl⟩
 ·rintro ex ⟨tt,g,q⟩ ⟨rfl,e1,rfl,g0,g1,g2,g8,g9⟩
  dsimp only at e1 g0 g1 g2 g8 g9
  have hle:=findM_le l b
  by_cases c1:((findM l b).1:Int)<(l.length:Nat)
  ·have hm1:(findM l b).1<l.length:=by omega
   obtain ⟨x,hx⟩:∃x,l[(findM l b).1]? = some x:=⟨_,List.getElem?_eq_getElem hm1⟩
   have hat:atM l b (findM l b).1=cmpI x.own b:=by unfold atM;rw [hx]
   have hf2:(findM l b).2=decide (cmpI x.own b=0):=by
    rw [←hat]
    show (decide ((findM l b).1<l.length)&&decide (atM l b (findM l b).1=0))=_
    rw [decide_eq_true hm1]
    rfl
   obtain ⟨id,off,cc,cs,o,t,w,rfl,hgi,hidl,hle2,hE,hw⟩:=(hs.fr e1).el hx
   have ow:=hw.ln.2.2
   rw [hf2]
   generalize (findM l b).1=m at *
   simp -dsimp (disch:=repeat first|rw [nxn]|rw [nxp]|omega) only [go_sem,g0,g1,g2,g8,g9,c1,hm1,hgi,hle2,hE,ow]
   refine callK_of (sharesCmpC hS b ⟨w,rfl,hw⟩) ?_
   rintro r g3 ⟨rfl,f3⟩
   by_cases hc:cmpI x.own b=0
   ·simp -dsimp (disch:=repeat first|rw [nxn]|rw [nxp]|omega) only [go_sem,hc,g0,g1,g2,g8,g9,c1]
    first | exact e1.trans f3 | exact ⟨by simp [hc],e1.trans f3⟩
   ·simp -dsimp (disch:=repeat first|rw [nxn]|rw [nxp]|omega) only [go_sem,hc,g0,g1,g2,g8,g9,c1]
    first | exact e1.trans f3 | exact ⟨by simp [hc],e1.trans f3⟩
  ·have hf2:(findM l b).2=false:=by
    show (decide ((findM l b).1<l.length)&&decide (atM l b (findM l b).1=0))=_
    rw [decide_eq_false (by omega)]
    rfl
   rw [hf2]
   generalize (findM l b).1=m at *
   simp -dsimp (disch:=repeat first|rw [nxn]|rw [nxp]|omega) only [go_sem,g0,g1,g2,g8,g9,c1]
   first | exact e1 | exact ⟨by first | trivial | rfl,e1⟩
def Vs (K:Nat→Nat) (h:AH) (p:Nat) (l:List Hd) (n:List Mt):Prop:=∃hv sv,h.get p=some (.cells [hv,sv] true false)∧p<h.nx∧Hs K h hv l∧Ms K h sv n
theorem Vs.vw {K:Nat→Nat} {h:AH} {p:Nat} {l:List Hd} {n:List Mt} (v:Vs K h p l n):Vw K h p l:=let ⟨a,b,h1,h2,h3,h4⟩:=v;⟨a,b,h1,h2,h3,h4.ln.2.2⟩
theorem sharesC (hS:Mz S) {K:Nat→Nat} {h:AH} {p:Nat} {l:List Hd} {n:List Mt} (b:Int) (hw:Vs K h p l n):RnC Tryz.prog S 60 [.ptr p 0,.int .i64 b] h fun r h'=>r=.tup [.int .i64 ((findM n b).1:Nat),.bool (findM n b).2]∧Fr h h':=by
 obtain ⟨hv,sv,hp,hpn,hs,hm⟩:=hw
 obtain ⟨_,_,ov⟩:=hm.ln
 refine RnC.enter' Tryz.f60 _ 15 [.tmp 4,.tmp 5] (hS.nk _ _ _ (by simp)) bd60 Tryz.func60 rfl rfl rfl ?_
 simp -dsimp only [go_sem,hp,ov]
 refine callK_of (bsMC hS b hm) ?_
 rintro r g ⟨rfl,f2⟩
 try simp -dsimp only [go_sem]
 exact ⟨by first | trivial | rfl,f2⟩
end
def atI (l:List Int) (b:Int) (i:Nat):Int:=match l[i]? with | some x=>cmpI x b | none=>0
def findI (l:List Int) (b:Int):Nat×Bool:=(bsF (atI l b) l.length 0 l.length,decide (bsF (atI l b) l.length 0 l.length<l.length)&&decide (atI l b (bsF (atI l b) l.length 0 l.length)=0))
theorem findI_le (l:List Int) (b:Int):(findI l b).1≤l.length:=(bsF_le _ _ _ _ (Nat.zero_le _)).2
theorem cmpI_neg {a b:Int}:cmpI a b<0↔a<b:=by unfold cmpI;split <;> (try split) <;> omega
theorem cmpI_zero {a b:Int}:cmpI a b=0↔a=b:=by unfold cmpI;split <;> (try split) <;> omega
structure Na (S:Sums):Prop extends Mz S where
 na:∀f args h,f∈[113,114,86]→S f args h=none
section
variable {S : Sums}
theorem lessIC (hS:Na S) {h:AH} (a b:Int):RnC Tryz.prog S 113 [.int .i64 a,.int .i64 b] h fun r h'=>r=.bool (decide (a<b))∧h'=h:=by
 refine RnC.enter' Tryz.f113 _ 17 [.tmp 4] (hS.na _ _ _ (by simp)) bd113 Tryz.func113 rfl rfl rfl ?_
 simp -dsimp only [go_sem]
 refine callK_of (nanI hS.toMk a) ?_
 rintro r g ⟨rfl,rfl⟩
 by_cases h1:a<b
 ·simp -dsimp only [go_sem,h1]
  exact ⟨by simp [h1],by first | trivial | rfl⟩
 ·simp -dsimp only [go_sem,h1]
  exact ⟨by simp [h1],by first | trivial | rfl⟩
theorem nanSC (hS:Na S) {h:AH} (a:Int):RnC Tryz.prog S 114 [.int .i64 a] h fun r h'=>r=.bool false∧h'=h:=by
 refine RnC.enter' Tryz.f114 _ 6 [.tmp 2] (hS.na _ _ _ (by simp)) bd114 Tryz.func114 rfl rfl rfl ?_
 simp -dsimp only [go_sem]
 exact ⟨by first | trivial | rfl,by first | trivial | rfl⟩
theorem bsIC (hS:Na S) {K:Nat→Nat} {h:AH} {hv:AV} {l:List Int} (b:Int) (hs:Iv K h hv l):RnC Tryz.prog S 86 [hv,.int .i64 b] h fun r h'=>r=.tup [.int .i64 ((findI l b).1:Nat),.bool (findI l b).2]∧Fr h h':=by
 refine RnC.enter' Tryz.f86 _ 54 [.tmp 4,.tmp 5] (hS.na _ _ _ (by simp)) bd86 Tryz.func86 rfl rfl rfl ?_
 obtain ⟨lv,sv,ov⟩:=hs.ln
 have hl:=hs.2
 simp -dsimp (disch:=repeat first|rw [nxn]|rw [nxp]|omega) only [go_sem,ov,lv]
 refine loopK_of (RnL.rounds (Q:=fun ex u=>u.d=[]∧Fr h u.h∧ex=.exit 0∧u.t.get 0=some hv∧u.t.get 1=some (.int .i64 b)∧u.t.get 6=some (.int .i64 (l.length:Nat))∧u.t.get 7=some (.int .i64 ((findI l b).1:Nat)))
  (fun m u=>u.d=[]∧Fr h u.h∧u.t.get 0=some hv∧u.t.get 1=some (.int .i64 b)∧u.t.get 6=some (.int .i64 (l.length:Nat))∧∃i j f:Nat,u.t.get 7=some (.int .i64 (i:Nat))∧u.t.get 8=some (.int .i64 (j:Nat))∧i≤j∧j≤l.length∧j-i≤f∧bsF (atI l b) f i j=(findI l b).1∧m=f) ?_ l.length ?_) ?_
 ·rintro m ⟨tt,g,q⟩ ⟨e2,e1,g0,g1,g6,i,j,f,g7,g8,hij,hj,hf,hb,rfl⟩
  dsimp only at e1 e2 g0 g1 g6 g7 g8
  subst e2
  by_cases c4:(i:Int)<(j:Nat)
  ·have hij':i<j:=by omega
   obtain ⟨m,rfl⟩:∃f',m=f'+1:=⟨m-1,by omega⟩
   rw [bsF,if_pos hij'] at hb
   have hm1:(i+j)/2<l.length:=by omega
   obtain ⟨x,hx⟩:∃x,l[(i+j)/2]? = some x:=⟨_,List.getElem?_eq_getElem hm1⟩
   have hat:atI l b ((i+j)/2)=cmpI x b:=by unfold atI;rw [hx]
   rw [hat] at hb
   simp only [cmpI_neg] at hb
   obtain ⟨id,off,cc,cs,o,t,rfl,hgi,hidl,_,hle,hE⟩:=(hs.fr e1).at hx
   have hE2:cs[off+(i+j)/2*1]? = some (.int .i64 x):=by rw [Nat.mul_one];exact hE
   have u1:=fun g=>cvIU g i j (by omega)
   have u2:=fun g=>shU g (i+j)
   have u3:=fun g=>cvUI g ((i+j)/2) (by omega)
   have hm2:(((i+j)/2:Nat):Int)<(l.length:Nat):=by omega
   simp -dsimp (disch:=repeat first|rw [nxn]|rw [nxp]|omega) only [go_sem,c4,g0,g1,g6,g7,g8,u1,u2,u3,hm1,hm2,hgi,hle,hE,hE2]
   refine callK_of (lessIC hS x b) ?_
   rintro r g3 ⟨rfl,rfl⟩
   by_cases hc:x<b
   ·rw [if_pos hc] at hb
    simp -dsimp (disch:=repeat first|rw [nxn]|rw [nxp]|omega) only [go_sem,hc,g0,g1,g6,g7,g8]
    exact ⟨m,by omega,trivial,e1,trivial,trivial,trivial,(i+j)/2+1,j,m,rfl,rfl,by omega,hj,by omega,hb,rfl⟩
   ·rw [if_neg hc] at hb
    simp -dsimp (disch:=repeat first|rw [nxn]|rw [nxp]|omega) only [go_sem,hc,g0,g1,g6,g7,g8]
    exact ⟨m,by omega,trivial,e1,trivial,trivial,trivial,i,(i+j)/2,m,rfl,rfl,by omega,by omega,by omega,hb,rfl⟩
  ·obtain rfl:i=j:=by omega
   have:bsF (atI l b) m i i=i:=by
    cases m with
    | zero=>rfl
    | succ m=>rw [bsF,if_neg (by omega)]
   rw [this] at hb
   simp -dsimp (disch:=repeat first|rw [nxn]|rw [nxp]|omega) only [go_sem,c4,g0,g1,g6,g7,g8]
   exact ⟨trivial,e1,trivial,trivial,trivial,trivial,by rw [hb]⟩
 ·simp -dsimp (disch:=repeat first|rw [nxn]|rw [nxp]|omega) only [go_sem]
  exact ⟨trivial,Fr.refl _,trivial,trivial,trivial,0,l.length,l.length,rfl,rfl,Nat.zero_le _,Nat.le_refl _,Nat.le_refl _,rfl,rfl⟩
 ·rintro ex ⟨tt,g,q⟩ ⟨rfl,e1,rfl,g0,g1,g6,g7⟩
  dsimp only at e1 g0 g1 g6 g7
  have hle:=findI_le l b
  by_cases c1:((findI l b).1:Int)<(l.length:Nat)
  ·have hm1:(findI l b).1<l.length:=by omega
   obtain ⟨x,hx⟩:∃x,l[(findI l b).1]? = some x:=⟨_,List.getElem?_eq_getElem hm1⟩
   have hat:atI l b (findI l b).1=cmpI x b:=by unfold atI;rw [hx]
   have hf2:(findI l b).2=decide (x=b):=by
    have:decide (x=b)=decide (cmpI x b=0):=by simp [cmpI_zero]
    rw [this,←hat]
    show (decide ((findI l b).1<l.length)&&decide (atI l b (findI l b).1=0))=_
    rw [decide_eq_true hm1]
    rfl
   obtain ⟨id,off,cc,cs,o,t,rfl,hgi,hidl,_,hle2,hE⟩:=(hs.fr e1).at hx
   rw [hf2]
   generalize (findI l b).1=m at *
   have hE2:cs[off+m*1]? = some (.int .i64 x):=by rw [Nat.mul_one];exact hE
   by_cases hc:x=b
   ·simp -dsimp (disch:=repeat first|rw [nxn]|rw [nxp]|omega) only [go_sem,hc,g0,g1,g6,g7,c1,hm1,hgi,hle2,hE,hE2]
    first | exact e1 | exact ⟨by simp [hc],e1⟩
   ·simp -dsimp (disch:=repeat first|rw [nxn]|rw [nxp]|omega) only [go_sem,hc,g0,g1,g6,g7,c1,hm1,hgi,hle2,hE,hE2]
    refine callK_of (nanSC hS x) ?_
    rintro r g3 ⟨rfl,rfl⟩
    simp -dsimp (disch:=repeat first|rw [nxn]|rw [nxp]|omega) only [go_sem,hc,g0,g1,g6,g7,c1]
    first | exact e1 | exact ⟨by simp [hc],e1⟩
  ·have hf2:(findI l b).2=false:=by
    show (decide ((findI l b).1<l.length)&&decide (atI l b (findI l b).1=0))=_
    rw [decide_eq_false (by omega)]
    rfl
   rw [hf2]
   generalize (findI l b).1=m at *
   simp -dsimp (disch:=repeat first|rw [nxn]|rw [nxp]|omega) only [go_sem,g0,g1,g6,g7,c1]
   first | exact e1 | exact ⟨by first | trivial | rfl,e1⟩
end
end Go.Proofs.YtihigekgnnoejaaGreatDoor.mdl
end