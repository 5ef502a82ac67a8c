/- Texts joined: MF, MG, MH, MI, MJ. -/
import Derived.Test.YtihigekgnnoejaaGreatDoorG1
import Derived.Test.YtihigekgnnoejaaGreatDoorG2
set_option maxRecDepth 100000
set_option linter.unusedVariables false
set_option linter.unusedSimpArgs false
set_option maxHeartbeats 16000000
section
namespace Go.Proofs.YtihigekgnnoejaaGreatDoor.mdl
open Go Go.Abs Go.Proofs
section
variable {S : Sums}
structure Mc (S:Sums):Prop extends Mr S,Go.Proofs.YtihigekgnnoejaaGreatDoor.tre.Sp S
theorem countC (hS:Mr S) {h:AH} (l s:Int) (hs:¬s=0):RnC Tryz.prog S 143 [.int .i64 l,.int .i64 s] h fun r h'=>(∃n,r=.int .i64 n)∧h'=h:=by
 refine RnC.enter' Tryz.f143 _ 11 [.tmp 4] (hS.nr _ _ _ (by simp)) bd143 Tryz.func143 rfl rfl rfl ?_
 simp -dsimp only [go_sem,hs]
 exact ⟨⟨_,rfl⟩,by first | trivial | rfl⟩
theorem emptyC (hS:Mr S) {K:Nat→Nat} {h:AH} {d:AV} {a b:Int} {l:List Dg} (hd:Dv K h d l):RnC Tryz.prog S 124 [.agg [.int .i64 a,.int .i64 b,d]] h fun r h'=>(∃b,r=.bool b)∧Fr h h':=by
 refine RnC.enter' Tryz.f124 _ 17 [.tmp 2] (hS.nr _ _ _ (by simp)) bd124 Tryz.func124 rfl rfl rfl ?_
 obtain ⟨ld,sd,od⟩:=hd.ln
 have md:=oneM od
 by_cases h1:a=0
 ·by_cases h2:b=0
  ·simp -dsimp only [go_sem,od,md,h1,h2,ld]
   exact ⟨⟨_,rfl⟩,Fr.new _ _⟩
  ·simp -dsimp only [go_sem,od,md,h1,h2,ld]
   exact ⟨⟨_,rfl⟩,Fr.new _ _⟩
 ·simp -dsimp only [go_sem,od,md,h1,ld]
  exact ⟨⟨_,rfl⟩,Fr.new _ _⟩
theorem bCheckC (hS:Mr S) {K:Nat→Nat} {h:AH} {d:AV} {a b:Int} {l:List Dg} (hd:Dv K h d l):RnC Tryz.prog S 123 [.agg [.int .i64 a,.int .i64 b,d]] h fun r h'=>(∃e,r=.int .i64 e)∧Fr h h':=by
 refine RnC.enter' Tryz.f123 _ 38 [.tmp 2] (hS.nr _ _ _ (by simp)) bd123 Tryz.func123 rfl rfl rfl ?_
 obtain ⟨ld,sd,od⟩:=hd.ln
 have md:=oneM od
 by_cases h1:4194304<b
 ·simp -dsimp only [go_sem,od,md,h1]
  exact ⟨⟨_,rfl⟩,Fr.new _ _⟩
 by_cases h2:(1024:Int)<(l.length:Nat)
 ·simp -dsimp only [go_sem,od,md,h1,h2,ld]
  exact ⟨⟨_,rfl⟩,Fr.new _ _⟩
 simp -dsimp only [go_sem,od,md,h1,h2,ld]
 have hq:(h.new (.cells [.int .i64 a,.int .i64 b,d] true false)).get h.nx=some (.cells [.int .i64 a,.int .i64 b,d] true false):=AH.get_new_eq rfl
 have fq:Fr h (h.new (.cells [.int .i64 a,.int .i64 b,d] true false)):=Fr.new _ _
 have nq:(h.new (.cells [.int .i64 a,.int .i64 b,d] true false)).nx=h.nx+1:=rfl
 generalize h.new (.cells [.int .i64 a,.int .i64 b,d] true false)=g at hq fq nq ⊢
 refine syDraw.keep (fun j=>j=h.nx) (by kernel_rfl) (by kernel_rfl) ?_
 have fx:Fr g { tr:=g.tr,nx:=g.nx+25 }:=(Fr.refl g).more _ (by omega)
 have svi:∀(k:IntKind) (n:Int),sameAV 20 (.int k n) (.int k n)=true:=fun k n=>by simp [sameAV]
 have svb:∀(b:Bool),sameAV 20 (.bool b) (.bool b)=true:=fun b=>by simp [sameAV]
 by_cases h3:a<1
 ·simp -dsimp only [go_sem,hq,od,h3,true_and,implies_true,svi,svb]
  exact ⟨⟨_,rfl⟩,fq.trans fx⟩
 by_cases h4:65536<a
 ·simp -dsimp only [go_sem,hq,od,h3,h4,true_and,implies_true,svi,svb]
  exact ⟨⟨_,rfl⟩,fq.trans fx⟩
 by_cases h5:b<0
 ·simp -dsimp only [go_sem,hq,od,h3,h4,h5,true_and,implies_true,svi,svb]
  exact ⟨⟨_,rfl⟩,fq.trans fx⟩
 simp -dsimp only [go_sem,hq,od,h3,h4,h5,true_and,implies_true,svi,svb]
 refine callK_of (countC hS b a (by omega)) ?_
 rintro r g2 ⟨⟨n,rfl⟩,rfl⟩
 by_cases h6:n=(l.length:Nat)
 ·simp -dsimp only [go_sem,hq,od,sd,h6,ld,true_and,implies_true,svi,svb]
  exact ⟨⟨_,rfl⟩,fq.trans fx⟩
 ·simp -dsimp only [go_sem,hq,od,sd,h6,ld,true_and,implies_true,svi,svb]
  exact ⟨⟨_,rfl⟩,fq.trans fx⟩
theorem rCheckC (hS:Mc S) {K:Nat→Nat} {h:AH} {ca:List AV} {a:Rc} (ha:Ra K h ca a):RnC Tryz.prog S 94 [.agg ca] h fun r h'=>(∃e,r=.int .i64 e)∧Fr h h':=by
 obtain ⟨v,d,rfl,hv,hd,hp⟩:=ha
 refine RnC.enter' Tryz.f94 _ 48 [.tmp 2] (hS.nr _ _ _ (by simp)) bd94 Tryz.func94 rfl rfl rfl ?_
 obtain ⟨_,_,sv,ov⟩:=hv.ln
 obtain ⟨_,sd,od⟩:=hd.ln
 have mv:=oneM ov
 have md:=oneM od
 simp -dsimp only [go_sem,ov,od,mv,md]
 have hq:(h.new (.cells [.str a.path,v,.int .i64 a.own,.bool a.gone,.int .i64 a.size,.int .i64 a.len,d] true false)).get h.nx=some (.cells [.str a.path,v,.int .i64 a.own,.bool a.gone,.int .i64 a.size,.int .i64 a.len,d] true false):=AH.get_new_eq rfl
 have fq:Fr h (h.new (.cells [.str a.path,v,.int .i64 a.own,.bool a.gone,.int .i64 a.size,.int .i64 a.len,d] true false)):=Fr.new _ _
 have nq:h.nx<(h.new (.cells [.str a.path,v,.int .i64 a.own,.bool a.gone,.int .i64 a.size,.int .i64 a.len,d] true false)).nx:=Nat.lt_succ_self _
 generalize h.new (.cells [.str a.path,v,.int .i64 a.own,.bool a.gone,.int .i64 a.size,.int .i64 a.len,d] true false)=g at hq fq nq ⊢
 refine callK_of (Go.Proofs.YtihigekgnnoejaaGreatDoor.tre.checkC hS.toSp) ?_
 rintro r g1 ⟨rfl,f1⟩
 have q1:g1.get h.nx=_:=(f1.get _ nq).trans hq
 have n1:=f1.nx
 by_cases h1:Go.Proofs.YtihigekgnnoejaaGreatDoor.tre.checkS a.path=0
 case neg =>
  have c1:¬((Go.Proofs.YtihigekgnnoejaaGreatDoor.tre.checkS a.path:Nat):Int)=0:=by omega
  simp -dsimp only [go_sem,c1]
  exact ⟨⟨_,rfl⟩,fq.trans f1⟩
 have c1:((Go.Proofs.YtihigekgnnoejaaGreatDoor.tre.checkS a.path:Nat):Int)=0:=by omega
 simp -dsimp only [go_sem,c1,q1,ov]
 refine callK_of (vCheckC hS.toMv (hv.fr (fq.trans f1))) ?_
 rintro r g2 ⟨rfl,f2⟩
 have q2:g2.get h.nx=_:=(f2.get _ (by omega)).trans q1
 have n2:=f2.nx
 cases h2:rightV 0 a.vec
 ·simp -dsimp only [go_sem]
  exact ⟨⟨_,rfl⟩,(fq.trans f1).trans f2⟩
 have fq2:=(fq.trans f1).trans f2
 simp -dsimp only [go_sem,q2,od,md]
 refine callK_of (bCheckC hS.toMr (hd.fr fq2)) ?_
 rintro r g3 ⟨⟨e,rfl⟩,f3⟩
 have q3:g3.get h.nx=_:=(f3.get _ (by omega)).trans q2
 have n3:=f3.nx
 have fq3:=fq2.trans f3
 by_cases h3:e=3
 ·simp -dsimp only [go_sem,h3]
  exact ⟨⟨_,rfl⟩,fq3⟩
 simp -dsimp only [go_sem,h3,q3,ov]
 refine callK_of (vValueC hS.toMv a.own (hv.fr fq3)) ?_
 rintro r g4 ⟨rfl,f4⟩
 have q4:g4.get h.nx=_:=(f4.get _ (by omega)).trans q3
 have n4:=f4.nx
 have fq4:=fq3.trans f4
 by_cases h4:valV a.vec a.own=0
 ·simp -dsimp only [go_sem,h4]
  exact ⟨⟨_,rfl⟩,fq4⟩
 cases hgn:a.gone
 ·rw [hgn] at q4
  simp -dsimp only [go_sem,h4,q4,od,md]
  refine callK_of (bCheckC hS.toMr (hd.fr fq4)) ?_
  rintro r g5 ⟨⟨e5,rfl⟩,f5⟩
  by_cases h5:e5=0
  ·simp -dsimp only [go_sem,h5]
   exact ⟨⟨_,rfl⟩,fq4.trans f5⟩
  ·simp -dsimp only [go_sem,h5]
   exact ⟨⟨_,rfl⟩,fq4.trans f5⟩
 ·rw [hgn] at q4
  simp -dsimp only [go_sem,h4,q4,od,md]
  refine callK_of (emptyC hS.toMr (hd.fr fq4)) ?_
  rintro r g5 ⟨⟨b5,rfl⟩,f5⟩
  have q5:g5.get h.nx=_:=(f5.get _ (by omega)).trans q4
  cases b5
  ·simp -dsimp only [go_sem,q5]
   exact ⟨⟨_,rfl⟩,fq4.trans f5⟩
  ·simp -dsimp only [go_sem,q5]
   exact ⟨⟨_,rfl⟩,fq4.trans f5⟩
end
section
variable {S : Sums}
structure Mg (S:Sums):Prop extends Mc S where
 add:∀(a b:Int) (h:AH),∃x y:Int,S 210 [.int .u64 a,.int .u64 b,.int .u64 0] h=some (.tup [.int .u64 x,.int .u64 y],h)
 ng:∀f args h,f∈[168,179,167,156,140,120]→S f args h=none
theorem sumC (hS:Mg S) {K:Nat→Nat} {h:AH} {v:AV} {l:List Ct} (hv:Cv K h v l):RnC Tryz.prog S 202 [v] h fun r h'=>(∃x y,r=.tup [.int .u64 x,.int .u64 y])∧Fr h h':=by
 refine RnC.enter' Tryz.f202 _ 28 [.tmp 2,.tmp 3] (hS.nv _ _ _ (by simp)) bd202 Tryz.func202 rfl rfl rfl ?_
 obtain ⟨lv,lw,sv,ov⟩:=hv.ln
 have hl:=hv.2
 simp -dsimp only [go_sem,lw,ov]
 refine loopK_of (RnL.rounds (Q:=fun ex u=>u.d=[]∧Fr h u.h∧ex=.exit 0∧∃x y,u.t.get 2=some (.int .u64 x)∧u.t.get 3=some (.int .u64 y))
  (fun m u=>u.d=[]∧Fr h u.h∧u.t.get 8=some v∧u.t.get 9=some (.int .i64 (l.length:Nat))∧∃(i:Nat) (x y:Int),u.t.get 2=some (.int .u64 x)∧u.t.get 3=some (.int .u64 y)∧u.t.get 10=some (.int .i64 (i:Nat))∧i≤l.length∧m=l.length-i) ?_ l.length ?_) ?_
 ·rintro m ⟨tt,g,q⟩ ⟨e2,e1,g8,g9,i,x,y,g2,g3,g10,hi,rfl⟩
  dsimp only at e1 e2 g2 g3 g8 g9 g10
  subst e2
  by_cases c4:(i:Int)<(l.length:Nat)
  ·have hil:i<l.length:=by omega
   obtain ⟨c,hc⟩:∃c,l[i]? = some c:=⟨_,List.getElem?_eq_getElem hil⟩
   obtain ⟨id,off,cc,cs,o,t,rfl,hgi,hidl,hk,hle,hx,x0,x1⟩:=Cv.at hv hc
   have hgx:=(e1.get id hidl).trans hgi
   simp -dsimp (disch:=repeat first|rw [nxn]|rw [nxp]|omega) only [go_sem,c4,g2,g3,g8,g9,g10,hil,hgx,hle,hx]
   obtain ⟨xx,yy,hs⟩:=hS.add y c.2 ((g.new (.cells [.int .i64 0,.int .u64 0] true false)).put g.nx (.cells [.int .i64 c.1,.int .u64 c.2] true false))
   refine callK_of (RnC.sum hs (Q:=fun v h'=>v=.tup [.int .u64 xx,.int .u64 yy]∧h'=_) ⟨rfl,rfl⟩) ?_
   rintro r g4 ⟨rfl,rfl⟩
   try simp -dsimp (disch:=repeat first|rw [nxn]|rw [nxp]|omega) only [go_sem,g2,g3,g8,g9,g10]
   exact ⟨l.length-(i+1),by omega,trivial,(e1.news _).put _ e1.nx,trivial,trivial,i+1,_,_,rfl,rfl,rfl,by omega,rfl⟩
  ·have:i=l.length:=by omega
   subst this
   simp -dsimp only [go_sem,c4,g2,g3,g8,g9,g10]
   exact ⟨trivial,e1,trivial,x,y,rfl,rfl⟩
 ·simp -dsimp only [go_sem]
  exact ⟨trivial,Fr.refl _,trivial,trivial,0,0,0,rfl,rfl,rfl,Nat.zero_le _,rfl⟩
 ·rintro ex ⟨tt,g,q⟩ ⟨rfl,e1,rfl,x,y,g2,g3⟩
  dsimp only at e1 g2 g3
  simp -dsimp only [go_sem,g2,g3]
  exact ⟨⟨_,_,rfl⟩,e1⟩
theorem orderC (hS:Mg S) {K:Nat→Nat} {h:AH} {v w:AV} {a b:List Ct} (hv:Cv K h v a) (hw:Cv K h w b):RnC Tryz.prog S 190 [v,w] h fun r h'=>(∃n,r=.int .i64 n)∧Fr h h':=by
 refine RnC.enter' Tryz.f190 _ 65 [.tmp 4] (hS.nv _ _ _ (by simp)) bd190 Tryz.func190 rfl rfl rfl ?_
 obtain ⟨_,_,sv,ov⟩:=hv.ln
 obtain ⟨_,_,sw,ow⟩:=hw.ln
 simp -dsimp only [go_sem,ov,ow]
 refine callK_of (bothC hS.toMv hv hw) ?_
 rintro r g ⟨rfl,f⟩
 cases hb:rightV 0 a&&rightV 0 b
 ·simp -dsimp only [go_sem,ov,ow]
  exact ⟨⟨_,rfl⟩,f⟩
 simp -dsimp only [go_sem,ov,ow]
 refine callK_of (sumC hS (hv.fr f)) ?_
 rintro r g2 ⟨⟨x,y,rfl⟩,f2⟩
 simp -dsimp only [go_sem,ov,ow]
 refine callK_of (sumC hS ((hw.fr f).fr f2)) ?_
 rintro r g3 ⟨⟨x2,y2,rfl⟩,f3⟩
 have ff:=(f.trans f2).trans f3
 by_cases h1:x<x2
 ·simp -dsimp only [go_sem,h1]
  exact ⟨⟨_,rfl⟩,ff⟩
 have go:∀(Q:Prop),Q→Q:=fun _ h=>h
 by_cases h2:x=x2
 case neg =>
  have h3:x2<x:=by omega
  simp -dsimp only [go_sem,h1,h2,h3]
  exact ⟨⟨_,rfl⟩,ff⟩
 subst h2
 by_cases h4:y<y2
 ·simp -dsimp only [go_sem,h1,h4]
  exact ⟨⟨_,rfl⟩,ff⟩
 by_cases h5:y2<y
 ·simp -dsimp only [go_sem,h1,h4,h5]
  exact ⟨⟨_,rfl⟩,ff⟩
 simp -dsimp only [go_sem,h1,h4,h5,ov,ow]
 refine loopK_of (RnL.rounds (Q:=fun ex u=>u.d=[]∧Fr h u.h∧(ex=.exit 1∨ex=.ret∧∃n,u.t.get 4=some (.int .i64 n)))
  (fun m u=>u.d=[]∧Fr h u.h∧u.t.get 0=some v∧u.t.get 1=some w∧∃n:Nat,u.t.get 9=some (.int .i64 ((n+1:Nat):Int))∧n≤16∧m=16-n) ?_ 16 ?_) ?_
 ·rintro m ⟨tt,g,q⟩ ⟨e2,e1,g0,g1,n,g9,hn,rfl⟩
  dsimp only at e1 e2 g0 g1 g9
  subst e2
  by_cases c4:((n+1:Nat):Int)≤16
  ·simp -dsimp only [go_sem,c4,g0,g1,g9,ov,ow]
   refine callK_of (vValueC hS.toMv ((n+1:Nat):Int) (hv.fr e1)) ?_
   rintro r g2 ⟨rfl,f2⟩
   try simp -dsimp only [go_sem,g0,g1,g9,ov,ow]
   refine callK_of (vValueC hS.toMv ((n+1:Nat):Int) ((hw.fr e1).fr f2)) ?_
   rintro r g3 ⟨rfl,f3⟩
   have e3:=(e1.trans f2).trans f3
   by_cases h1:valV a ((n+1:Nat):Int)=valV b ((n+1:Nat):Int)
   ·try simp -dsimp (disch:=repeat first|rw [nxn]|rw [nxp]|omega) only [go_sem,g0,g1,g9,h1]
    exact ⟨16-(n+1),by omega,trivial,e3,trivial,trivial,n+1,rfl,by omega,rfl⟩
   ·by_cases h2:valV b ((n+1:Nat):Int)<valV a ((n+1:Nat):Int)
    ·try simp -dsimp only [go_sem,g0,g1,g9,h1,h2]
     exact ⟨trivial,e3,.inr ⟨trivial,_,rfl⟩⟩
    ·try simp -dsimp only [go_sem,g0,g1,g9,h1,h2]
     exact ⟨trivial,e3,.inr ⟨trivial,_,rfl⟩⟩
  ·obtain rfl:n=16:=by omega
   simp -dsimp only [go_sem,c4,g0,g1,g9]
   exact ⟨trivial,e1,.inl trivial⟩
 ·simp -dsimp only [go_sem,ov,ow]
  exact ⟨trivial,ff,trivial,trivial,0,rfl,by decide,rfl⟩
 ·rintro ex ⟨tt,g2,q⟩ ⟨rfl,e1,rfl | ⟨rfl,n,t4⟩⟩
  ·dsimp only at e1
   try simp -dsimp only [go_sem]
   exact ⟨⟨_,rfl⟩,e1⟩
  ·dsimp only at e1 t4
   try simp -dsimp only [go_sem,t4]
   exact ⟨⟨_,rfl⟩,e1⟩
end
theorem bldV (x0 x1 x2 x3 x4 x5 x6:AV):evBuild Tryz.prog 211 [(0,.agg [x0,x1,x2,x3,x4,x5,x6])]=some (.agg [x0,x1,x2,x3,x4,x5,x6]):=by kernel_rfl
section
variable {S : Sums}
theorem totalC (hS:Mg S) {K:Nat→Nat} {h:AH} {ca cb:List AV} {a b:Rc} (ha:Ra K h ca a) (hb:Ra K h cb b):RnC Tryz.prog S 179 [.agg ca,.agg cb] h fun r h'=>(∃n,r=.int .i64 n)∧Fr h h':=by
 obtain ⟨v,d,rfl,hv,hd,_⟩:=ha
 obtain ⟨w,e,rfl,hw,he,_⟩:=hb
 refine RnC.enter' Tryz.f179 _ 12 [.tmp 4] (hS.ng _ _ _ (by simp)) bd179 Tryz.func179 rfl rfl rfl ?_
 obtain ⟨_,_,sv,ov⟩:=hv.ln
 obtain ⟨_,_,sw,ow⟩:=hw.ln
 obtain ⟨_,sd,od⟩:=hd.ln
 obtain ⟨_,se,oe⟩:=he.ln
 have mv:=oneM ov
 have mw:=oneM ow
 have md:=oneM od
 have me:=oneM oe
 simp -dsimp (disch:=repeat first|rw [nxn]|rw [nxp]|omega) only [go_sem,ov,ow,od,oe,mv,mw,md,me]
 refine callK_of (orderC hS (hv.fr ((Fr.new _ _).news _)) (hw.fr ((Fr.new _ _).news _))) ?_
 rintro r g ⟨⟨n,rfl⟩,f⟩
 try simp -dsimp only [go_sem]
 exact ⟨⟨_,rfl⟩,((Fr.new _ _).news _).trans f⟩
theorem beatsC (hS:Mg S) {K:Nat→Nat} {h:AH} {ca cb:List AV} {a b:Rc} (ha:Ra K h ca a) (hb:Ra K h cb b):RnC Tryz.prog S 168 [.agg ca,.agg cb] h fun r h'=>(∃n,r=.bool n)∧Fr h h':=by
 have ha0:=ha
 have hb0:=hb
 obtain ⟨v,d,rfl,hv,hd,_⟩:=ha
 obtain ⟨w,e,rfl,hw,he,_⟩:=hb
 refine RnC.enter' Tryz.f168 _ 23 [.tmp 4] (hS.ng _ _ _ (by simp)) bd168 Tryz.func168 rfl rfl rfl ?_
 obtain ⟨_,_,sv,ov⟩:=hv.ln
 obtain ⟨_,_,sw,ow⟩:=hw.ln
 obtain ⟨_,sd,od⟩:=hd.ln
 obtain ⟨_,se,oe⟩:=he.ln
 have mv:=oneM ov
 have mw:=oneM ow
 have md:=oneM od
 have me:=oneM oe
 simp -dsimp only [go_sem,evLen,ov,ow,od,oe,mv,mw,md,me]
 generalize hg:((h.new (.cells [.str a.path,v,.int .i64 a.own,.bool a.gone,.int .i64 a.size,.int .i64 a.len,d] true false)).new (.cells [.str b.path,w,.int .i64 b.own,.bool b.gone,.int .i64 b.size,.int .i64 b.len,e] true false))=g1
 have n1:g1.nx=h.nx+2:=by rw [←hg];rfl
 have f1:Fr h g1:=by rw [←hg];exact (Fr.new _ _).news _
 have q1:g1.get h.nx=some (.cells [.str a.path,v,.int .i64 a.own,.bool a.gone,.int .i64 a.size,.int .i64 a.len,d] true false):=by rw [←hg];exact (AH.get_new_ne (by simp)).trans (AH.get_new_eq rfl)
 have q2:g1.get (h.nx+1)=some (.cells [.str b.path,w,.int .i64 b.own,.bool b.gone,.int .i64 b.size,.int .i64 b.len,e] true false):=by rw [←hg];exact AH.get_new_eq rfl
 generalize hg2:g1.new (.cells [.func (.func 179) [] []] true false)=g2
 have n2:g2.nx=h.nx+3:=by rw [←hg2];show g1.nx+1=_;omega
 have f2:Fr g1 g2:=by rw [←hg2];exact Fr.new _ _
 have q21:g2.get h.nx=_:=(f2.get _ (by omega)).trans q1
 have q22:g2.get (h.nx+1)=_:=(f2.get _ (by omega)).trans q2
 have q23:g2.get (h.nx+2)=some (.cells [.func (.func 179) [] []] true false):=by rw [←hg2,←n1];exact AH.get_new_eq rfl
 have f12:=f1.trans f2
 rw [n1]
 refine loopK_of (RnL.rounds (Q:=fun ex u=>u.d=[]∧Fr h u.h∧(ex=.exit 0∨ex=.ret∧∃n,u.t.get 4=some (.bool n)))
  (fun m u=>u.d=[]∧Fr g2 u.h∧u.t.get 2=some (.ptr h.nx 0)∧u.t.get 3=some (.ptr (h.nx+1) 0)∧u.t.get 8=some (.sl (h.nx+2) 0 1 1 (some 1))∧u.t.get 9=some (.int .i64 1)∧∃n:Nat,u.t.get 10=some (.int .i64 (n:Nat))∧n≤1∧m=1-n) ?_ 1 ?_) ?_
 ·rintro m ⟨tt,g,q⟩ ⟨e2,e1,g2',g3',g8,g9,n,g10,hn,rfl⟩
  dsimp only at e1 e2 g2' g3' g8 g9 g10
  subst e2
  obtain rfl | rfl:n=0∨n=1:=by omega
  ·have r1:g.get h.nx=_:=(e1.get _ (by omega)).trans q21
   have r2:g.get (h.nx+1)=_:=(e1.get _ (by omega)).trans q22
   have r3:g.get (h.nx+2)=_:=(e1.get _ (by omega)).trans q23
   simp -dsimp only [go_sem,g2',g3',g8,g9,g10,r1,r2,r3,ov,ow,od,oe,mv,mw,md,me]
   refine callK_of (totalC hS ((ha0.fr f12).fr e1) ((hb0.fr f12).fr e1)) ?_
   rintro r g4 ⟨⟨k,rfl⟩,f4⟩
   by_cases hk:k=0
   ·simp -dsimp only [go_sem,hk,g2',g3',g8,g9,g10]
    exact ⟨0,by omega,trivial,e1.trans f4,trivial,trivial,trivial,trivial,1,rfl,by omega,rfl⟩
   ·simp -dsimp only [go_sem,hk,g2',g3',g8,g9,g10]
    exact ⟨trivial,(f12.trans e1).trans f4,.inr ⟨trivial,_,rfl⟩⟩
  ·simp -dsimp only [go_sem,g8,g9,g10]
   exact ⟨trivial,f12.trans e1,.inl trivial⟩
 ·simp -dsimp only [go_sem]
  exact ⟨trivial,Fr.refl _,trivial,trivial,trivial,trivial,0,rfl,by decide,rfl⟩
 ·rintro ex ⟨tt,g2,q⟩ ⟨rfl,e1,rfl | ⟨rfl,n,t4⟩⟩
  ·dsimp only at e1
   try simp -dsimp only [go_sem]
   exact ⟨⟨_,rfl⟩,e1⟩
  ·dsimp only at e1 t4
   try simp -dsimp only [go_sem,t4]
   exact ⟨⟨_,rfl⟩,e1⟩
theorem wCheckC (hS:Mg S) {K:Nat→Nat} {h:AH} {ca cb:List AV} {a b:Rc} (ha:Ra K h ca a) (hb:Ra K h cb b):RnC Tryz.prog S 167 [.agg ca,.agg cb] h fun r h'=>(∃n,r=.int .i64 n)∧Fr h h':=by
 have ha0:=ha
 have hb0:=hb
 obtain ⟨v,d,rfl,hv,hd,_⟩:=ha
 obtain ⟨w,e,rfl,hw,he,_⟩:=hb
 refine RnC.enter' Tryz.f167 _ 27 [.tmp 4] (hS.ng _ _ _ (by simp)) bd167 Tryz.func167 rfl rfl rfl ?_
 obtain ⟨_,_,sv,ov⟩:=hv.ln
 obtain ⟨_,_,sw,ow⟩:=hw.ln
 obtain ⟨_,sd,od⟩:=hd.ln
 obtain ⟨_,se,oe⟩:=he.ln
 have mv:=oneM ov
 have mw:=oneM ow
 have md:=oneM od
 have me:=oneM oe
 simp -dsimp (disch:=repeat first|rw [nxn]|rw [nxp]|omega) only [go_sem,evLen,ov,ow,od,oe,mv,mw,md,me]
 generalize hg:((h.new (.cells [.str a.path,v,.int .i64 a.own,.bool a.gone,.int .i64 a.size,.int .i64 a.len,d] true false)).new (.cells [.str b.path,w,.int .i64 b.own,.bool b.gone,.int .i64 b.size,.int .i64 b.len,e] true false))=g1
 have n1:g1.nx=h.nx+2:=by rw [←hg];rfl
 have f1:Fr h g1:=by rw [←hg];exact (Fr.new _ _).news _
 have q1:g1.get h.nx=some (.cells [.str a.path,v,.int .i64 a.own,.bool a.gone,.int .i64 a.size,.int .i64 a.len,d] true false):=by rw [←hg];exact (AH.get_new_ne (by simp)).trans (AH.get_new_eq rfl)
 have q2:g1.get (h.nx+1)=some (.cells [.str b.path,w,.int .i64 b.own,.bool b.gone,.int .i64 b.size,.int .i64 b.len,e] true false):=by rw [←hg];exact AH.get_new_eq rfl
 generalize hg2:g1.new (.cells [.str a.path,v,.int .i64 a.own,.bool a.gone,.int .i64 a.size,.int .i64 a.len,d,.str b.path,w,.int .i64 b.own,.bool b.gone,.int .i64 b.size,.int .i64 b.len,e] true false)=g2
 have n2:g2.nx=h.nx+3:=by rw [←hg2];show g1.nx+1=_;omega
 have f2:Fr g1 g2:=by rw [←hg2];exact Fr.new _ _
 have q21:g2.get h.nx=_:=(f2.get _ (by omega)).trans q1
 have q22:g2.get (h.nx+1)=_:=(f2.get _ (by omega)).trans q2
 have q23:g2.get (h.nx+2)=some (.cells [.str a.path,v,.int .i64 a.own,.bool a.gone,.int .i64 a.size,.int .i64 a.len,d,.str b.path,w,.int .i64 b.own,.bool b.gone,.int .i64 b.size,.int .i64 b.len,e] true false):=by rw [←hg2,←n1];exact AH.get_new_eq rfl
 have f12:=f1.trans f2
 try rw [n1]
 try rw [show h.nx+1+1=h.nx+2 from rfl]
 refine loopK_of (RnL.rounds (Q:=fun ex u=>u.d=[]∧Fr g2 u.h∧u.t.get 2=some (.ptr h.nx 0)∧u.t.get 3=some (.ptr (h.nx+1) 0)∧(ex=.exit 0∨ex=.ret∧∃n,u.t.get 4=some (.int .i64 n)))
  (fun m u=>u.d=[]∧Fr g2 u.h∧u.t.get 2=some (.ptr h.nx 0)∧u.t.get 3=some (.ptr (h.nx+1) 0)∧u.t.get 10=some (.sl (h.nx+2) 0 2 7 (some 2))∧u.t.get 11=some (.int .i64 2)∧∃n:Nat,u.t.get 12=some (.int .i64 (n:Nat))∧n≤2∧m=2-n) ?_ 2 ?_) ?_
 ·rintro m ⟨tt,g,q⟩ ⟨e2,e1,g2',g3',g10,g11,n,g12,hn,rfl⟩
  dsimp only at e1 e2 g2' g3' g10 g11 g12
  subst e2
  have r3:g.get (h.nx+2)=_:=(e1.get _ (by omega)).trans q23
  obtain rfl | rfl | rfl:n=0∨n=1∨n=2:=by omega
  ·simp -dsimp only [go_sem,g2',g3',g10,g11,g12,r3,ov,ow,od,oe,mv,mw,md,me]
   refine callK_of (rCheckC hS.toMc (((ha0.fr f12).fr e1).fr ((Fr.new _ _).put _ (Nat.le_refl _)))) ?_
   rintro r g4 ⟨⟨k,rfl⟩,f4⟩
   have fe:Fr g2 g4:=((e1.news _).put _ e1.nx).trans f4
   by_cases hk:k=0
   ·simp -dsimp only [go_sem,hk,g2',g3',g10,g11,g12]
    exact ⟨1,by omega,trivial,fe,trivial,trivial,trivial,trivial,1,rfl,by omega,rfl⟩
   ·simp -dsimp only [go_sem,hk,g2',g3',g10,g11,g12]
    exact ⟨trivial,fe,trivial,trivial,.inr ⟨trivial,_,rfl⟩⟩
  ·simp -dsimp only [go_sem,g2',g3',g10,g11,g12,r3,ov,ow,od,oe,mv,mw,md,me]
   refine callK_of (rCheckC hS.toMc (((hb0.fr f12).fr e1).fr ((Fr.new _ _).put _ (Nat.le_refl _)))) ?_
   rintro r g4 ⟨⟨k,rfl⟩,f4⟩
   have fe:Fr g2 g4:=((e1.news _).put _ e1.nx).trans f4
   by_cases hk:k=0
   ·simp -dsimp only [go_sem,hk,g2',g3',g10,g11,g12]
    exact ⟨0,by omega,trivial,fe,trivial,trivial,trivial,trivial,2,rfl,by omega,rfl⟩
   ·simp -dsimp only [go_sem,hk,g2',g3',g10,g11,g12]
    exact ⟨trivial,fe,trivial,trivial,.inr ⟨trivial,_,rfl⟩⟩
  ·simp -dsimp only [go_sem,g2',g3',g10,g11,g12]
   exact ⟨trivial,e1,trivial,trivial,.inl trivial⟩
 ·simp -dsimp only [go_sem]
  exact ⟨trivial,Fr.refl _,trivial,trivial,trivial,trivial,0,rfl,by decide,rfl⟩
 ·rintro ex ⟨tt,g,q⟩ ⟨rfl,e1,g2',g3',rfl | ⟨rfl,n,t4⟩⟩
  ·dsimp only at e1 g2' g3'
   have r1:g.get h.nx=_:=(e1.get _ (by omega)).trans q21
   have r2:g.get (h.nx+1)=_:=(e1.get _ (by omega)).trans q22
   by_cases hp:a.path=b.path
   ·simp -dsimp only [go_sem,g2',g3',r1,r2,neStr,decide_eq_true hp]
    exact ⟨⟨_,rfl⟩,f12.trans e1⟩
   ·simp -dsimp only [go_sem,g2',g3',r1,r2,neStr,decide_eq_false hp]
    exact ⟨⟨_,rfl⟩,f12.trans e1⟩
  ·dsimp only at e1 t4
   try simp -dsimp only [go_sem,t4]
   exact ⟨⟨_,rfl⟩,f12.trans e1⟩
theorem winnerC (hS:Mg S) {K:Nat→Nat} {h:AH} {ca cb:List AV} {a b:Rc} (ha:Ra K h ca a) (hb:Ra K h cb b):RnC Tryz.prog S 156 [.agg ca,.agg cb] h fun r h'=>(∃(n:Nat) (e:Int),n≤1∧r=.tup [.int .i64 (n:Nat),.int .i64 e])∧Fr h h':=by
 have ha0:=ha
 have hb0:=hb
 obtain ⟨v,d,rfl,hv,hd,_⟩:=ha
 obtain ⟨w,e,rfl,hw,he,_⟩:=hb
 refine RnC.enter' Tryz.f156 _ 18 [.tmp 4,.tmp 5] (hS.ng _ _ _ (by simp)) bd156 Tryz.func156 rfl rfl rfl ?_
 obtain ⟨_,_,sv,ov⟩:=hv.ln
 obtain ⟨_,_,sw,ow⟩:=hw.ln
 obtain ⟨_,sd,od⟩:=hd.ln
 obtain ⟨_,se,oe⟩:=he.ln
 have mv:=oneM ov
 have mw:=oneM ow
 have md:=oneM od
 have me:=oneM oe
 simp -dsimp only [go_sem,evLen,ov,ow,od,oe,mv,mw,md,me]
 generalize hg:((h.new (.cells [.str a.path,v,.int .i64 a.own,.bool a.gone,.int .i64 a.size,.int .i64 a.len,d] true false)).new (.cells [.str b.path,w,.int .i64 b.own,.bool b.gone,.int .i64 b.size,.int .i64 b.len,e] true false))=g1
 have n1:g1.nx=h.nx+2:=by rw [←hg];rfl
 have f1:Fr h g1:=by rw [←hg];exact (Fr.new _ _).news _
 have q1:g1.get h.nx=some (.cells [.str a.path,v,.int .i64 a.own,.bool a.gone,.int .i64 a.size,.int .i64 a.len,d] true false):=by rw [←hg];exact (AH.get_new_ne (by simp)).trans (AH.get_new_eq rfl)
 have q2:g1.get (h.nx+1)=some (.cells [.str b.path,w,.int .i64 b.own,.bool b.gone,.int .i64 b.size,.int .i64 b.len,e] true false):=by rw [←hg];exact AH.get_new_eq rfl
 try simp -dsimp only [go_sem,q1,q2,ov,ow,od,oe,mv,mw,md,me]
 refine callK_of (wCheckC hS (ha0.fr f1) (hb0.fr f1)) ?_
 rintro r g2 ⟨⟨k,rfl⟩,f2⟩
 have q21:g2.get h.nx=_:=(f2.get _ (by omega)).trans q1
 have q22:g2.get (h.nx+1)=_:=(f2.get _ (by omega)).trans q2
 by_cases hk:k=0
 case neg =>
  simp -dsimp only [go_sem,hk]
  exact ⟨⟨0,_,by decide,rfl⟩,f1.trans f2⟩
 simp -dsimp only [go_sem,hk,q21,q22,ov,ow,od,oe,mv,mw,md,me,bldV]
 refine callK_of (beatsC hS ((hb0.fr f1).fr f2) ((ha0.fr f1).fr f2)) ?_
 rintro r g3 ⟨⟨b3,rfl⟩,f3⟩
 cases b3
 ·simp -dsimp only [go_sem]
  exact ⟨⟨0,_,by decide,rfl⟩,(f1.trans f2).trans f3⟩
 ·simp -dsimp only [go_sem]
  exact ⟨⟨1,_,by decide,rfl⟩,(f1.trans f2).trans f3⟩
end
def Tw (K:Nat→Nat) (h:AH) (bx sd:Nat) (v w:AV) (a b:List Ct):Prop:=h.get bx=some (.cells [.sl sd 0 2 1 (some 2)] true false)∧bx<h.nx∧h.get sd=some (.cells [v,w] true false)∧sd<h.nx∧Cv K h v a∧Cv K h w b
theorem Tw.fr {K:Nat→Nat} {h h':AH} {bx sd:Nat} {v w:AV} {a b:List Ct} (t:Tw K h bx sd v w a b) (f:Fr h h'):Tw K h' bx sd v w a b :=
 ⟨(f.get _ t.2.1).trans t.1,Nat.lt_of_lt_of_le t.2.1 f.nx,(f.get _ t.2.2.2.1).trans t.2.2.1,Nat.lt_of_lt_of_le t.2.2.2.1 f.nx,t.2.2.2.2.1.fr f,t.2.2.2.2.2.fr f⟩
theorem bldCt (x y:Int):evBuild Tryz.prog 64 [(0,.int .i64 x),(1,.int .u64 y)]=some (.agg [.int .i64 x,.int .u64 y]):=by kernel_rfl
section
variable {S : Sums}
theorem mvalC (hS:Mg S) {K:Nat→Nat} {h:AH} {bx sd:Nat} {v w:AV} {a b:List Ct} (d:Int) (ht:Tw K h bx sd v w a b):RnC Tryz.prog S 170 [.int .i64 d,.ptr bx 0] h fun r h'=>(∃n,r=.int .u64 n)∧Fr h h':=by
 refine RnC.enter' Tryz.f170 _ 20 [.tmp 3] (hS.nv _ _ _ (by simp)) bd170 Tryz.func170 rfl rfl rfl ?_
 obtain ⟨t1,t2,t3,t4,hv,hw⟩:=ht
 obtain ⟨_,_,sv,ov⟩:=hv.ln
 obtain ⟨_,_,sw,ow⟩:=hw.ln
 simp -dsimp only [go_sem,evLen,t1]
 refine loopK_of (RnL.rounds (Q:=fun ex u=>u.d=[]∧Fr h u.h∧ex=.exit 0∧∃x,u.t.get 4=some (.int .u64 x))
  (fun m u=>u.d=[]∧Fr h u.h∧u.t.get 0=some (.int .i64 d)∧u.t.get 7=some (.sl sd 0 2 1 (some 2))∧u.t.get 8=some (.int .i64 2)∧∃(i:Nat) (x:Int),u.t.get 4=some (.int .u64 x)∧u.t.get 9=some (.int .i64 (i:Nat))∧i≤2∧m=2-i) ?_ 2 ?_) ?_
 ·rintro m ⟨tt,g,q⟩ ⟨e2,e1,g0,g7,g8,i,x,g4,g9,hi,rfl⟩
  dsimp only at e1 e2 g0 g4 g7 g8 g9
  subst e2
  have r3:g.get sd=_:=(e1.get _ t4).trans t3
  obtain rfl | rfl | rfl:i=0∨i=1∨i=2:=by omega
  ·simp -dsimp only [go_sem,g0,g4,g7,g8,g9,r3,ov,ow]
   refine callK_of (vValueC hS.toMv d (hv.fr e1)) ?_
   rintro r g5 ⟨rfl,f5⟩
   try simp -dsimp only [go_sem,g0,g4,g7,g8,g9]
   exact ⟨1,by omega,trivial,e1.trans f5,trivial,trivial,trivial,1,_,rfl,rfl,by omega,rfl⟩
  ·simp -dsimp only [go_sem,g0,g4,g7,g8,g9,r3,ov,ow]
   refine callK_of (vValueC hS.toMv d (hw.fr e1)) ?_
   rintro r g5 ⟨rfl,f5⟩
   try simp -dsimp only [go_sem,g0,g4,g7,g8,g9]
   exact ⟨0,by omega,trivial,e1.trans f5,trivial,trivial,trivial,2,_,rfl,rfl,by omega,rfl⟩
  ·simp -dsimp only [go_sem,g0,g4,g7,g8,g9]
   exact ⟨trivial,e1,trivial,x,rfl⟩
 ·simp -dsimp only [go_sem]
  exact ⟨trivial,Fr.refl _,trivial,trivial,trivial,0,0,rfl,rfl,by decide,rfl⟩
 ·rintro ex ⟨tt,g,q⟩ ⟨rfl,e1,rfl,x,g4⟩
  dsimp only at e1 g4
  simp -dsimp only [go_sem,g4]
  exact ⟨⟨_,rfl⟩,e1⟩
theorem ofC (hS:Mg S) {K:Nat→Nat} {h:AH} {bx sd:Nat} {v w:AV} {a b:List Ct} (ht:Tw K h bx sd v w a b) (top:∀j,h.nx≤j→K j=0):RnC Tryz.prog S 169 [.func (.func 170) [] [.ptr bx 0]] h fun r h'=>(∃l,Cv K h' r l)∧Fr h h':=by
 refine RnC.enter' Tryz.f169 _ 22 [.tmp 2] (hS.nv _ _ _ (by simp)) bd169 Tryz.func169 rfl rfl rfl ?_
 simp -dsimp (disch:=repeat first|rw [nxn]|rw [nxp]|omega) only [go_sem]
 refine loopK_of (RnL.rounds (Q:=fun ex u=>u.d=[]∧Fr h u.h∧ex=.exit 0∧∃(x:AV) (l:List Ct),u.t.get 3=some x∧Ez 2 h.nx u.h x (l.flatMap ctc)∧l.length≤16)
  (fun m u=>u.d=[]∧Fr h u.h∧u.t.get 0=some (.func (.func 170) [] [.ptr bx 0])∧∃(n:Nat) (x:AV) (l:List Ct),u.t.get 3=some x∧u.t.get 4=some (.int .i64 ((n+1:Nat):Int))∧Ez 2 h.nx u.h x (l.flatMap ctc)∧l.length≤n∧n≤16∧m=16-n) ?_ 16 ?_) ?_
 ·rintro m ⟨tt,g,q⟩ ⟨e2,e1,g0,n,x,l,g3,g4,hz,hl,hn,rfl⟩
  dsimp only at e1 e2 g0 g3 g4 hz
  subst e2
  have ox:=(Ez.one hz).2
  by_cases c4:((n+1:Nat):Int)≤16
  ·simp -dsimp (disch:=repeat first|rw [nxn]|rw [nxp]|omega) only [go_sem,c4,g0,g3,g4]
   refine callK_of (mvalC hS ((n+1:Nat):Int) (ht.fr e1)) ?_
   rintro r g5 ⟨⟨y,rfl⟩,f5⟩
   by_cases hy:0<y
   ·have f6:Fr h (g5.new (.cells (ctc (((n+1:Nat):Int),y)) true false)):=(e1.trans f5).news _
    have hl1:=ctc_len l
    obtain ⟨v',h',a1,a2,a3,a4,_⟩:=Ez.app2 (P:=Tryz.prog) (h0:=h) (h:=g5.new (.cells (ctc (((n+1:Nat):Int),y)) true false)) (v:=x) (x:=.sl g5.nx 0 1 2 (some 1)) (k:=1) (m:=ctc (((n+1:Nat):Int),y)) Tryz.underlying174 Tryz.underlying174 (by rfl) aiCt (by decide) (hz.fr (f5.news _)) rfl (by rw [firstA_sl (AH.get_new_eq rfl) (Nat.le_refl _) (by simp [ctc])];simp [ctc]) rfl rfl f6 (by rw [hl1];show (2*(l.length*2+2)+1000)*16≤_;omega) (by rw [hl1];show l.length*2+2≤_;omega)
    have a3':Ez 2 h.nx h' v' ((l++[(((n+1:Nat):Int),y)]).flatMap ctc):=by rw [List.flatMap_append];simpa using a3
    try simp -dsimp (disch:=repeat first|rw [nxn]|rw [nxp]|omega) only [go_sem,hy,g0,g3,g4,bldCt,ox,a1,a4]
    exact ⟨16-(n+1),by omega,trivial,a2,trivial,n+1,v',_,rfl,rfl,a3',by simp;omega,by omega,rfl⟩
   ·try simp -dsimp (disch:=repeat first|rw [nxn]|rw [nxp]|omega) only [go_sem,hy,g0,g3,g4]
    exact ⟨16-(n+1),by omega,trivial,e1.trans f5,trivial,n+1,x,l,rfl,rfl,hz.fr f5,by omega,by omega,rfl⟩
  ·simp -dsimp (disch:=repeat first|rw [nxn]|rw [nxp]|omega) only [go_sem,c4,g0,g3,g4,ox]
   exact ⟨trivial,e1,trivial,x,l,rfl,hz,by omega⟩
 ·simp -dsimp (disch:=repeat first|rw [nxn]|rw [nxp]|omega) only [go_sem]
  exact ⟨trivial,Fr.refl _,trivial,0,.nilsl,[],rfl,rfl,.inl ⟨rfl,rfl⟩,Nat.le_refl _,by decide,rfl⟩
 ·rintro ex ⟨tt,g,q⟩ ⟨rfl,e1,rfl,x,l,g3,hz,hl⟩
  dsimp only at e1 g3 hz
  have ox:=(Ez.one hz).2
  simp -dsimp (disch:=repeat first|rw [nxn]|rw [nxp]|omega) only [go_sem,g3,ox]
  exact ⟨⟨l,Fl.of hz fun id o n c hh=>top id (ezLow hz hh),by omega⟩,e1⟩
theorem mergeC (hS:Mg S) {K:Nat→Nat} {h:AH} {sd:Nat} {v w:AV} {a b:List Ct} (hsd:h.get sd=some (.cells [v,w] true false)) (hsl:sd<h.nx) (hv:Cv K h v a) (hw:Cv K h w b) (top:∀j,h.nx≤j→K j=0):RnC Tryz.prog S 157 [.sl sd 0 2 1 (some 2)] h fun r h'=>(∃x l e,r=.tup [x,.int .i64 e]∧Cv K h' x l)∧Fr h h':=by
 refine RnC.enter' Tryz.f157 _ 21 [.tmp 2,.tmp 3] (hS.nv _ _ _ (by simp)) bd157 Tryz.func157 rfl rfl rfl ?_
 obtain ⟨_,_,sv,ov⟩:=hv.ln
 obtain ⟨_,_,sw,ow⟩:=hw.ln
 simp -dsimp only [go_sem,evLen]
 have f1:Fr h (h.new (.cells [.sl sd 0 2 1 (some 2)] true false)):=Fr.new _ _
 have q1:(h.new (.cells [.sl sd 0 2 1 (some 2)] true false)).get h.nx=some (.cells [.sl sd 0 2 1 (some 2)] true false):=AH.get_new_eq rfl
 have n1:(h.new (.cells [.sl sd 0 2 1 (some 2)] true false)).nx=h.nx+1:=rfl
 generalize h.new (.cells [.sl sd 0 2 1 (some 2)] true false)=g1 at f1 q1 n1 ⊢
 refine loopK_of (RnL.rounds (Q:=fun ex u=>u.d=[]∧Fr g1 u.h∧(ex=.exit 0∧u.t.get 1=some (.ptr h.nx 0)∨ex=.ret∧u.t.get 2=some .nilsl∧∃e,u.t.get 3=some (.int .i64 e)))
  (fun m u=>u.d=[]∧Fr g1 u.h∧u.t.get 1=some (.ptr h.nx 0)∧u.t.get 7=some (.sl sd 0 2 1 (some 2))∧u.t.get 8=some (.int .i64 2)∧∃(i:Nat),u.t.get 9=some (.int .i64 (i:Nat))∧i≤2∧m=2-i) ?_ 2 ?_) ?_
 ·rintro m ⟨tt,g,q⟩ ⟨e2,e1,t1,g7,g8,i,g9,hi,rfl⟩
  dsimp only at e1 e2 t1 g7 g8 g9
  subst e2
  have r3:g.get sd=_:=(e1.get _ (by omega)).trans ((f1.get _ hsl).trans hsd)
  obtain rfl | rfl | rfl:i=0∨i=1∨i=2:=by omega
  ·simp -dsimp only [go_sem,t1,g7,g8,g9,r3,ov,ow]
   refine callK_of (vCheckC hS.toMv ((hv.fr f1).fr e1)) ?_
   rintro r g5 ⟨rfl,f5⟩
   cases rightV 0 a
   ·simp -dsimp only [go_sem,t1,g7,g8,g9]
    exact ⟨trivial,e1.trans f5,.inr ⟨trivial,trivial,_,rfl⟩⟩
   ·simp -dsimp only [go_sem,t1,g7,g8,g9]
    exact ⟨1,by omega,trivial,e1.trans f5,trivial,trivial,trivial,1,rfl,by omega,rfl⟩
  ·simp -dsimp only [go_sem,t1,g7,g8,g9,r3,ov,ow]
   refine callK_of (vCheckC hS.toMv ((hw.fr f1).fr e1)) ?_
   rintro r g5 ⟨rfl,f5⟩
   cases rightV 0 b
   ·simp -dsimp only [go_sem,t1,g7,g8,g9]
    exact ⟨trivial,e1.trans f5,.inr ⟨trivial,trivial,_,rfl⟩⟩
   ·simp -dsimp only [go_sem,t1,g7,g8,g9]
    exact ⟨0,by omega,trivial,e1.trans f5,trivial,trivial,trivial,2,rfl,by omega,rfl⟩
  ·simp -dsimp only [go_sem,t1,g7,g8,g9]
   exact ⟨trivial,e1,.inl ⟨trivial,trivial⟩⟩
 ·simp -dsimp only [go_sem]
  exact ⟨trivial,Fr.refl _,trivial,trivial,trivial,0,rfl,by decide,rfl⟩
 ·rintro ex ⟨tt,g,q⟩ ⟨rfl,e1,⟨rfl,t1⟩ | ⟨rfl,t2,e,t3⟩⟩
  ·dsimp only at e1 t1
   have fe:=f1.trans e1
   simp -dsimp only [go_sem,t1]
   refine callK_of (ofC hS (K:=K) (v:=v) (w:=w) (a:=a) (b:=b) ⟨(e1.get _ (by omega)).trans q1,by have:=e1.nx;omega,(fe.get _ hsl).trans hsd,Nat.lt_of_lt_of_le hsl fe.nx,hv.fr fe,hw.fr fe⟩ fun j hj=>top j (Nat.le_trans fe.nx hj)) ?_
   rintro r g5 ⟨⟨l,hl⟩,f5⟩
   obtain ⟨_,_,sr,or⟩:=hl.ln
   try simp -dsimp only [go_sem,or]
   exact ⟨⟨_,l,_,rfl,hl⟩,fe.trans f5⟩
  ·dsimp only at e1 t2 t3
   simp -dsimp only [go_sem,t2,t3]
   exact ⟨⟨_,[],_,rfl,.inl ⟨rfl,rfl⟩,Nat.zero_le _⟩,f1.trans e1⟩
end
theorem cells1 {v:AV} (h:oneA v=true):cellsA v=some [v]:=by cases v <;> first | rfl | cases h
theorem bE:bytesOf { data:=#[] }=[]:=rfl
theorem bldR0:evBuild Tryz.prog 36 []=some (.agg [.str [],.nilsl,.int .i64 0,.bool false,.int .i64 0,.int .i64 0,.nilsl]):=by kernel_rfl
def r0:Rc:=⟨[],[],0,false,0,0,[]⟩
theorem ra0 (K:Nat→Nat) (h:AH):Ra K h [.str [],.nilsl,.int .i64 0,.bool false,.int .i64 0,.int .i64 0,.nilsl] r0:=⟨.nilsl,.nilsl,rfl,⟨.inl ⟨rfl,rfl⟩,Nat.zero_le _⟩,⟨.inl ⟨rfl,rfl⟩,Nat.zero_le _⟩,Nat.zero_le _⟩
section
variable {S : Sums}
theorem settleC (hS:Mg S) {K:Nat→Nat} {h:AH} {ca cb:List AV} {a b:Rc} (ha:Ra K h ca a) (hb:Ra K h cb b) (top:∀j,h.nx≤j→K j=0):RnC Tryz.prog S 140 [.agg ca,.agg cb] h fun r h'=>(∃cs x e,r=.tup [.agg cs,.int .i64 e]∧Ra K h' cs x)∧Fr h h':=by
 have ha0:=ha
 have hb0:=hb
 obtain ⟨v,d,rfl,hv,hd,hpa⟩:=ha
 obtain ⟨w,e,rfl,hw,he,hpb⟩:=hb
 refine RnC.enter' Tryz.f140 _ 43 [.cell 4 36,.tmp 5] (hS.ng _ _ _ (by simp)) bd140 Tryz.func140 rfl rfl rfl ?_
 obtain ⟨_,_,sv,ov⟩:=hv.ln
 obtain ⟨_,_,sw,ow⟩:=hw.ln
 obtain ⟨_,sd,od⟩:=hd.ln
 obtain ⟨_,se,oe⟩:=he.ln
 have mv:=oneM ov
 have mw:=oneM ow
 have md:=oneM od
 have me:=oneM oe
 simp -dsimp (disch:=repeat first|rw [nxn]|rw [nxp]|omega) only [go_sem,evLen,ov,ow,od,oe,mv,mw,md,me]
 generalize hg:(((h.new (.cells [.str a.path,v,.int .i64 a.own,.bool a.gone,.int .i64 a.size,.int .i64 a.len,d] true false)).new (.cells [.str b.path,w,.int .i64 b.own,.bool b.gone,.int .i64 b.size,.int .i64 b.len,e] true false)).new (.cells [.str [],.nilsl,.int .i64 0,.bool false,.int .i64 0,.int .i64 0,.nilsl] true false))=g1
 have n1:g1.nx=h.nx+3:=by rw [←hg];rfl
 have f1:Fr h g1:=by rw [←hg];exact ((Fr.new _ _).news _).news _
 have q1:g1.get h.nx=some (.cells [.str a.path,v,.int .i64 a.own,.bool a.gone,.int .i64 a.size,.int .i64 a.len,d] true false):=by rw [←hg];exact (AH.get_new_ne (by simp [AH.new];omega)).trans ((AH.get_new_ne (by simp)).trans (AH.get_new_eq rfl))
 have q2:g1.get (h.nx+1)=some (.cells [.str b.path,w,.int .i64 b.own,.bool b.gone,.int .i64 b.size,.int .i64 b.len,e] true false):=by rw [←hg];exact (AH.get_new_ne (by simp [AH.new])).trans (AH.get_new_eq rfl)
 have q3:g1.get (h.nx+2)=some (.cells [.str [],.nilsl,.int .i64 0,.bool false,.int .i64 0,.int .i64 0,.nilsl] true false):=by rw [←hg];exact AH.get_new_eq rfl
 have kz:∀j,j<h.nx→K j=0→Kb K h.nx (h.nx+3) j=0:=fun j hj hk=>(Kb.out (.inl hj)).trans hk
 have topk:∀j,h.nx+3≤j→Kb K h.nx (h.nx+3) j=0:=fun j hj=>(Kb.out (.inr hj)).trans (top j (by omega))
 have ha1:=(ha0.col kz).fr f1
 have hb1:=(hb0.col kz).fr f1
 have fin:∀(g:AH) (o:AO) (cs:List AV) (r:Rc),Fr g1 g→Ra (Kb K h.nx (h.nx+3)) g cs r→Ra K (g.put (h.nx+2) o) cs r∧Fr h (g.put (h.nx+2) o):=fun g o cs r f hr =>
  ⟨Ra.col (K:=Kb K h.nx (h.nx+3)) (hr.gk ((Gk.refl _ _).put (.inl (Kb.in (by omega) (by omega))) _)) fun j _ hk=>Kb.z hk,(f1.trans f).put _ (by omega)⟩
 try simp -dsimp (disch:=repeat first|rw [nxn]|rw [nxp]|omega) only [go_sem,q1,q2,ov,ow,od,oe,mv,mw,md,me]
 refine callK_of (winnerC hS ha1 hb1) ?_
 rintro r g2 ⟨⟨n,k,hn1,rfl⟩,f2⟩
 have q21:g2.get h.nx=_:=(f2.get _ (by omega)).trans q1
 have q22:g2.get (h.nx+1)=_:=(f2.get _ (by omega)).trans q2
 have q23:g2.get (h.nx+2)=_:=(f2.get _ (by omega)).trans q3
 have n2:=f2.nx
 by_cases hk:k=0
 case neg =>
  obtain ⟨y1,y2⟩:=fin g2 (.cells [.str [],.nilsl,.int .i64 0,.bool false,.int .i64 0,.int .i64 0,.nilsl] true false) _ r0 f2 (ra0 _ _)
  simp -dsimp (disch:=repeat first|rw [nxn]|rw [nxp]|omega) only [go_sem,hk,bldR0,q23]
  exact ⟨⟨_,_,_,rfl,y1⟩,y2⟩
 have cv:=cells1 ov
 have cw:=cells1 ow
 simp -dsimp (disch:=repeat first|rw [nxn]|rw [nxp]|omega) only [go_sem,hk,q21,q22,ov,ow,od,oe,mv,mw,md,me,cv,cw,Option.bind_some,List.length_cons,List.length_nil,List.drop_succ_cons,List.drop_zero,List.drop_nil,List.cons_append,List.nil_append,List.take_succ_cons,List.take_zero,Nat.zero_add,decide_true,Bool.and_self,if_true]
 have f3:Fr g2 (g2.new (.cells [v,w] true false)):=Fr.new _ _
 refine callK_of (mergeC hS (K:=Kb K h.nx (h.nx+3)) (AH.get_new_eq rfl) (Nat.lt_succ_self _) ((((hv.col kz).fr f1).fr f2).fr f3) ((((hw.col kz).fr f1).fr f2).fr f3) fun j hj=>topk j (by have:=f3.nx;omega)) ?_
 rintro r g4 ⟨⟨x,l,k2,rfl,hl⟩,f4⟩
 have f14:=(f2.trans f3).trans f4
 have n4:=f14.nx
 have q41:g4.get h.nx=_:=(f14.get _ (by omega)).trans q1
 have q42:g4.get (h.nx+1)=_:=(f14.get _ (by omega)).trans q2
 have q43:g4.get (h.nx+2)=_:=(f14.get _ (by omega)).trans q3
 obtain ⟨_,_,sx,ox⟩:=hl.ln
 have mx:=oneM ox
 by_cases hk2:k2=0
 case neg =>
  obtain ⟨y1,y2⟩:=fin g4 (.cells [.str [],.nilsl,.int .i64 0,.bool false,.int .i64 0,.int .i64 0,.nilsl] true false) _ r0 f14 (ra0 _ _)
  simp -dsimp (disch:=repeat first|rw [nxn]|rw [nxp]|omega) only [go_sem,hk2,ox,bldR0,q43]
  exact ⟨⟨_,_,_,rfl,y1⟩,y2⟩
 have f5:Fr g4 (g4.new (.cells [.str a.path,v,.int .i64 a.own,.bool a.gone,.int .i64 a.size,.int .i64 a.len,d,.str b.path,w,.int .i64 b.own,.bool b.gone,.int .i64 b.size,.int .i64 b.len,e] true false)):=Fr.new _ _
 have q5:(g4.new (.cells [.str a.path,v,.int .i64 a.own,.bool a.gone,.int .i64 a.size,.int .i64 a.len,d,.str b.path,w,.int .i64 b.own,.bool b.gone,.int .i64 b.size,.int .i64 b.len,e] true false)).get g4.nx=some (.cells [.str a.path,v,.int .i64 a.own,.bool a.gone,.int .i64 a.size,.int .i64 a.len,d,.str b.path,w,.int .i64 b.own,.bool b.gone,.int .i64 b.size,.int .i64 b.len,e] true false):=AH.get_new_eq rfl
 obtain rfl | rfl:n=0∨n=1:=by omega
 all_goals
  simp -dsimp (disch:=repeat first|rw [nxn]|rw [nxp]|omega) only [go_sem,hk2,ox,q41,q42,ov,ow,od,oe,mv,mw,md,me]
  generalize g4.new (.cells [.str a.path,v,.int .i64 a.own,.bool a.gone,.int .i64 a.size,.int .i64 a.len,d,.str b.path,w,.int .i64 b.own,.bool b.gone,.int .i64 b.size,.int .i64 b.len,e] true false)=g5 at f5 q5 ⊢
  try simp -dsimp (disch:=repeat first|rw [nxn]|rw [nxp]|omega) only [go_sem,q5,ov,ow,od,oe,mv,mw,md,me]
  have f15:=f14.trans f5
  have n5:=f15.nx
  refine callK_of (copyC hS.toMr (by first | exact ha1.fr f15 | exact hb1.fr f15) fun j hj=>topk j (by omega)) ?_
  rintro r g6 ⟨⟨cb,rfl,hc6⟩,f6⟩
  obtain ⟨v6,d6,rfl,hv6,hd6,hp6⟩:=hc6
  obtain ⟨_,_,_,ov6⟩:=hv6.ln
  obtain ⟨_,_,od6⟩:=hd6.ln
  have mv6:=oneM ov6
  have md6:=oneM od6
  have f16:=f15.trans f6
  have n6:=f16.nx
  have q63:g6.get (h.nx+2)=_:=(f16.get _ (by omega)).trans q3
  have cx:=cells1 ox
  have hl6:=hl.fr ((f5.trans f6))
  simp -dsimp (disch:=repeat first|rw [nxn]|rw [nxp]|omega) only [go_sem,ov6,od6,mv6,md6,q63,ox,mx,cx]
  first
  | exact ⟨⟨_,{ a with vec:=l },_,rfl,(fin _ _ _ { a with vec:=l } (f16.trans ((((Fr.new g6 _).put _ (Nat.le_refl _)).put _ (Nat.le_refl _)))) ⟨x,d6,rfl,hl6.fr ((((Fr.new g6 _).put _ (Nat.le_refl _)).put _ (Nat.le_refl _))),hd6.fr ((((Fr.new g6 _).put _ (Nat.le_refl _)).put _ (Nat.le_refl _))),hp6⟩).1⟩,(fin _ _ _ r0 (f16.trans ((((Fr.new g6 _).put _ (Nat.le_refl _)).put _ (Nat.le_refl _)))) (ra0 _ _)).2⟩
  | exact ⟨⟨_,{ b with vec:=l },_,rfl,(fin _ _ _ { b with vec:=l } (f16.trans ((((Fr.new g6 _).put _ (Nat.le_refl _)).put _ (Nat.le_refl _)))) ⟨x,d6,rfl,hl6.fr ((((Fr.new g6 _).put _ (Nat.le_refl _)).put _ (Nat.le_refl _))),hd6.fr ((((Fr.new g6 _).put _ (Nat.le_refl _)).put _ (Nat.le_refl _))),hp6⟩).1⟩,(fin _ _ _ r0 (f16.trans ((((Fr.new g6 _).put _ (Nat.le_refl _)).put _ (Nat.le_refl _)))) (ra0 _ _)).2⟩
theorem upC (hS:Mg S) {K:Nat→Nat} {h:AH} {ca cb:List AV} {a b:Rc} (ha:Ra K h ca a) (hb:Ra K h cb b) (top:∀j,h.nx≤j→K j=0):RnC Tryz.prog S 120 [.agg ca,.agg cb] h fun r h'=>(∃cs x e,r=.tup [.agg cs,.int .i64 e]∧Ra K h' cs x)∧Fr h h':=by
 have ha0:=ha
 have hb0:=hb
 obtain ⟨v,d,rfl,hv,hd,hpa⟩:=ha
 obtain ⟨w,e,rfl,hw,he,hpb⟩:=hb
 refine RnC.enter' Tryz.f120 _ 48 [.cell 4 36,.tmp 5] (hS.ng _ _ _ (by simp)) bd120 Tryz.func120 rfl rfl rfl ?_
 obtain ⟨_,_,sv,ov⟩:=hv.ln
 obtain ⟨_,_,sw,ow⟩:=hw.ln
 obtain ⟨_,sd,od⟩:=hd.ln
 obtain ⟨_,se,oe⟩:=he.ln
 have mv:=oneM ov
 have mw:=oneM ow
 have md:=oneM od
 have me:=oneM oe
 simp -dsimp only [go_sem,evLen,ov,ow,od,oe,mv,mw,md,me]
 generalize hg:(((h.new (.cells [.str a.path,v,.int .i64 a.own,.bool a.gone,.int .i64 a.size,.int .i64 a.len,d] true false)).new (.cells [.str b.path,w,.int .i64 b.own,.bool b.gone,.int .i64 b.size,.int .i64 b.len,e] true false)).new (.cells [.str [],.nilsl,.int .i64 0,.bool false,.int .i64 0,.int .i64 0,.nilsl] true false))=g1
 have n1:g1.nx=h.nx+3:=by rw [←hg];rfl
 have f1:Fr h g1:=by rw [←hg];exact ((Fr.new _ _).news _).news _
 have q1:g1.get h.nx=some (.cells [.str a.path,v,.int .i64 a.own,.bool a.gone,.int .i64 a.size,.int .i64 a.len,d] true false):=by rw [←hg];exact (AH.get_new_ne (by simp [AH.new];omega)).trans ((AH.get_new_ne (by simp)).trans (AH.get_new_eq rfl))
 have q2:g1.get (h.nx+1)=some (.cells [.str b.path,w,.int .i64 b.own,.bool b.gone,.int .i64 b.size,.int .i64 b.len,e] true false):=by rw [←hg];exact (AH.get_new_ne (by simp [AH.new])).trans (AH.get_new_eq rfl)
 have q3:g1.get (h.nx+2)=some (.cells [.str [],.nilsl,.int .i64 0,.bool false,.int .i64 0,.int .i64 0,.nilsl] true false):=by rw [←hg];exact AH.get_new_eq rfl
 have kz:∀j,j<h.nx→K j=0→Kb K h.nx (h.nx+3) j=0:=fun j hj hk=>(Kb.out (.inl hj)).trans hk
 have topk:∀j,h.nx+3≤j→Kb K h.nx (h.nx+3) j=0:=fun j hj=>(Kb.out (.inr hj)).trans (top j (by omega))
 have ha1:=(ha0.col kz).fr f1
 have hb1:=(hb0.col kz).fr f1
 have fin:∀(g:AH) (o:AO) (cs:List AV) (r:Rc),Fr g1 g→Ra (Kb K h.nx (h.nx+3)) g cs r→Ra K (g.put (h.nx+2) o) cs r∧Fr h (g.put (h.nx+2) o):=fun g o cs r f hr =>
  ⟨Ra.col (K:=Kb K h.nx (h.nx+3)) (hr.gk ((Gk.refl _ _).put (.inl (Kb.in (by omega) (by omega))) _)) fun j _ hk=>Kb.z hk,(f1.trans f).put _ (by omega)⟩
 try simp -dsimp only [go_sem,q1,q2,ov,ow,od,oe,mv,mw,md,me]
 have zero:∀g,Fr g1 g→g.get (h.nx+2)=some (.cells [.str [],.nilsl,.int .i64 0,.bool false,.int .i64 0,.int .i64 0,.nilsl] true false)∧Ra K (g.put (h.nx+2) (.cells [.str [],.nilsl,.int .i64 0,.bool false,.int .i64 0,.int .i64 0,.nilsl] true false)) [.str [],.nilsl,.int .i64 0,.bool false,.int .i64 0,.int .i64 0,.nilsl] r0∧Fr h (g.put (h.nx+2) (.cells [.str [],.nilsl,.int .i64 0,.bool false,.int .i64 0,.int .i64 0,.nilsl] true false)):=fun g f =>
  let ⟨y1,y2⟩:=fin g (.cells [.str [],.nilsl,.int .i64 0,.bool false,.int .i64 0,.int .i64 0,.nilsl] true false) _ r0 f (ra0 _ _);⟨(f.get _ (by omega)).trans q3,y1,y2⟩
 refine callK_of (rCheckC hS.toMc hb1) ?_
 rintro r g2 ⟨⟨k,rfl⟩,f2⟩
 have q21:g2.get h.nx=_:=(f2.get _ (by omega)).trans q1
 have q22:g2.get (h.nx+1)=_:=(f2.get _ (by omega)).trans q2
 have n2:=f2.nx
 by_cases hk:k=0
 case neg =>
  obtain ⟨y0,y1,y2⟩:=zero g2 f2
  simp -dsimp only [go_sem,hk,bldR0,y0]
  exact ⟨⟨_,_,_,rfl,y1⟩,y2⟩
 have cpy:∀(g:AH),Fr g1 g→RnC Tryz.prog S 40 [.agg [.str b.path,w,.int .i64 b.own,.bool b.gone,.int .i64 b.size,.int .i64 b.len,e]] g fun r h'=>(∃cb,r=.agg cb∧Ra (Kb K h.nx (h.nx+3)) h' cb b)∧Fr g h':=fun g f=>copyC hS.toMr (hb1.fr f) fun j hj=>topk j (by have:=f.nx;omega)
 by_cases hp0:a.path=[]
 ·simp -dsimp only [go_sem,hk,q21,q22,ov,ow,od,oe,mv,mw,md,me,eqStr,bE,decide_eq_true hp0]
  refine callK_of (cpy g2 f2) ?_
  rintro r g6 ⟨⟨cb,rfl,hc6⟩,f6⟩
  have hc6':=hc6
  obtain ⟨v6,d6,rfl,hv6,hd6,hp6⟩:=hc6
  obtain ⟨_,_,_,ov6⟩:=hv6.ln
  obtain ⟨_,_,od6⟩:=hd6.ln
  have mv6:=oneM ov6
  have md6:=oneM od6
  have q63:g6.get (h.nx+2)=_:=(f6.get _ (by omega)).trans ((f2.get _ (by omega)).trans q3)
  simp -dsimp only [go_sem,ov6,od6,mv6,md6,q63]
  exact ⟨⟨_,_,_,rfl,(fin _ _ _ _ (f2.trans f6) hc6').1⟩,(fin _ _ _ r0 (f2.trans f6) (ra0 _ _)).2⟩
 simp -dsimp only [go_sem,hk,q21,q22,ov,ow,od,oe,mv,mw,md,me,eqStr,bE,decide_eq_false hp0]
 refine callK_of (rCheckC hS.toMc (ha1.fr f2)) ?_
 rintro r g3 ⟨⟨k3,rfl⟩,f3⟩
 have f23:=f2.trans f3
 have q31:g3.get h.nx=_:=(f3.get _ (by omega)).trans q21
 have q32:g3.get (h.nx+1)=_:=(f3.get _ (by omega)).trans q22
 have n3:=f3.nx
 by_cases hk3:k3=0
 case neg =>
  obtain ⟨y0,y1,y2⟩:=zero g3 f23
  simp -dsimp only [go_sem,hk3,bldR0,y0]
  exact ⟨⟨_,_,_,rfl,y1⟩,y2⟩
 by_cases hpp:a.path=b.path
 case neg =>
  obtain ⟨y0,y1,y2⟩:=zero g3 f23
  simp -dsimp only [go_sem,hk3,bldR0,y0,q31,q32,ov,ow,od,oe,mv,mw,md,me,neStr,decide_eq_false hpp]
  exact ⟨⟨_,_,_,rfl,y1⟩,y2⟩
 simp -dsimp only [go_sem,hk3,q31,q32,ov,ow,od,oe,mv,mw,md,me,neStr,decide_eq_true hpp]
 refine callK_of (cmpC hS.toMv ((hv.fr f1).fr f23) ((hw.fr f1).fr f23)) ?_
 rintro r g4 ⟨rfl,f4⟩
 have f24:=f23.trans f4
 have q41:g4.get h.nx=_:=(f4.get _ (by omega)).trans q31
 have q42:g4.get (h.nx+1)=_:=(f4.get _ (by omega)).trans q32
 have n4:=f4.nx
 generalize cmpV a.vec b.vec=cv
 by_cases h2:cv=2
 ·simp -dsimp only [go_sem,h2,q41,q42,ov,ow,od,oe,mv,mw,md,me]
  refine callK_of (cpy g4 f24) ?_
  rintro r g6 ⟨⟨cb,rfl,hc6⟩,f6⟩
  have hc6':=hc6
  obtain ⟨v6,d6,rfl,hv6,hd6,hp6⟩:=hc6
  obtain ⟨_,_,_,ov6⟩:=hv6.ln
  obtain ⟨_,_,od6⟩:=hd6.ln
  have mv6:=oneM ov6
  have md6:=oneM od6
  have q63:g6.get (h.nx+2)=_:=(f6.get _ (by omega)).trans ((f24.get _ (by omega)).trans q3)
  simp -dsimp only [go_sem,ov6,od6,mv6,md6,q63]
  exact ⟨⟨_,_,_,rfl,(fin _ _ _ _ (f24.trans f6) hc6').1⟩,(fin _ _ _ r0 (f24.trans f6) (ra0 _ _)).2⟩
 by_cases h4:cv=4
 ·simp -dsimp only [go_sem,h2,h4,q41,q42,ov,ow,od,oe,mv,mw,md,me]
  refine callK_of (settleC hS (ha1.fr f24) (hb1.fr f24) fun j hj=>topk j (by omega)) ?_
  rintro r g6 ⟨⟨cb,x,k6,rfl,hc6⟩,f6⟩
  have hc6':=hc6
  obtain ⟨v6,d6,rfl,hv6,hd6,hp6⟩:=hc6
  obtain ⟨_,_,_,ov6⟩:=hv6.ln
  obtain ⟨_,_,od6⟩:=hd6.ln
  have mv6:=oneM ov6
  have md6:=oneM od6
  have q63:g6.get (h.nx+2)=_:=(f6.get _ (by omega)).trans ((f24.get _ (by omega)).trans q3)
  simp -dsimp only [go_sem,ov6,od6,mv6,md6,q63]
  exact ⟨⟨_,_,_,rfl,(fin _ _ _ _ (f24.trans f6) hc6').1⟩,(fin _ _ _ r0 (f24.trans f6) (ra0 _ _)).2⟩
 obtain ⟨y0,y1,y2⟩:=zero g4 f24
 simp -dsimp only [go_sem,h2,h4,bldR0,y0]
 exact ⟨⟨_,_,_,rfl,y1⟩,y2⟩
end
end Go.Proofs.YtihigekgnnoejaaGreatDoor.mdl
end