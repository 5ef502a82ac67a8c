/- Texts joined: MIx, MIy. -/
import Derived.Test.YtihigekgnnoejaaGreatDoorH5
set_option maxRecDepth 100000
set_option linter.unusedVariables false
set_option linter.unusedSimpArgs false
set_option maxHeartbeats 64000000
section
namespace Go.Proofs.YtihigekgnnoejaaGreatDoor.mdl
open Go Go.Abs Go.Proofs
section
variable {S : Sums}
theorem tookC (hS:Nf S) {Inv:Nat→List Hd→Prop} (hI:InvOK Inv) {n0 n b:Nat} {K:Nat→Nat} {h:AH} {p:Nat} {l:List Hd} {s:List Mt} {cs:List AV} {x:Se} (hz:Zs n0 K h p l s) (hx:Sa K h cs x) (hi:Inv n l) (hb:SB b s) (hn:n+20<1000000):RnC Tryz.prog S 58 [.ptr p 0,.agg cs] h (Act Inv n0 K h p (n+20) (b+1)):=by
 have hx0:=hx
 obtain ⟨v1,d1,v2,d2,rw',rv,rfl,h1,h2,h3,h4,h5,h6,h7,h8⟩:=hx
 have o1:=h1.ln.2.2.2
 have o2:=h2.ln.2.2
 have o4:=h4.ln.2.2.2
 have o5:=h5.ln.2.2
 have o7:=h7.ln.2.2
 have o8:=h8.ln.2.2
 have p1:=oneM o1
 have p2:=oneM o2
 have p4:=oneM o4
 have p5:=oneM o5
 have p7:=oneM o7
 have p8:=oneM o8
 have hrc:=Sa.rc (x:=x) h1 h2 h3
 have hrs:=hrc.sv
 have hxs:=hx0.sv
 refine RnC.enter' Tryz.f58 _ 58 [.tmp 4] (hS.nb _ _ _ (by simp)) bd58 Tryz.func58 rfl rfl rfl ?_
 simp -dsimp only [go_sem,o1,o2,o4,o5,o7,o8,p1,p2,p4,p5,p7,p8]
 generalize hC:([.int .i64 x.kind,.int .i64 x.dev,.int .i64 x.peer,.int .i64 x.num,.str x.folder,.str x.path,.int .i64 x.dkind,.str x.dfolder,.str x.dpath,.str x.rc.path,v1,.int .i64 x.rc.own,.bool x.rc.gone,.int .i64 x.rc.size,.int .i64 x.rc.len,d1,.str x.copy,.str x.cp.path,v2,.int .i64 x.cp.own,.bool x.cp.gone,.int .i64 x.cp.size,.int .i64 x.cp.len,d2,.int .i64 x.ckind,.str x.cfolder,.int .i64 x.cdev,.int .i64 x.mt.own,rw',rv]:List AV)=C at *
 have c30:C.take 30=C:=by rw [←hC];rfl
 have cl:C.length=30:=by rw [←hC];rfl
 have c9:(C.drop 9).take 7=[.str x.rc.path,v1,.int .i64 x.rc.own,.bool x.rc.gone,.int .i64 x.rc.size,.int .i64 x.rc.len,d1]:=by rw [←hC];rfl
 have cl30:30≤C.length:=by omega
 have cl16:16≤C.length:=by omega
 have f1:Fr h (h.new (.cells C true false)):=Fr.new _ _
 have q1:(h.new (.cells C true false)).get h.nx=some (.cells C true false):=AH.get_new_eq rfl
 have n1:(h.new (.cells C true false)).nx=h.nx+1:=rfl
 generalize h.new (.cells C true false)=g1 at f1 q1 n1 ⊢
 refine syDraw.keepN 9 (fun j=>j=h.nx) (by kernel_rfl) (by kernel_rfl) rfl ?_
 have fA:Fr g1 { tr:=g1.tr,nx:=g1.nx+9 }:=(Fr.refl g1).more _ (by omega)
 simp -dsimp only [go_sem,q1,c30,cl30,true_and,true_or,or_true,implies_true,svi,svb,svs,svp,hxs]
 refine callK_of (atC hS ((hx0.fr f1).fr fA)) ?_
 rintro v g2 ⟨rfl,f2⟩
 have n2:g1.nx+9≤g2.nx:=f2.nx
 refine ⟨fun j hj=>f2.get j (by show j<g1.nx+9;omega),?_⟩
 have f12:=fA.trans f2
 have q2:=(f12.get _ (by omega)).trans q1
 simp -dsimp (disch:=repeat first|rw [nxn]|rw [nxp]|omega) only [go_sem,q2,c9,cl16,o1,o2,p1,p2,true_and,true_or,or_true,implies_true,svi,svb,svs,svp,hrs]
 refine ⟨fun j hj=>(AH.get_put_ne (by omega)).trans ((AH.get_put_ne (by omega)).trans (AH.get_put_ne (by omega))),fun j hj=>AH.get_put_ne (by omega),?_⟩
 generalize hg3:((((g2.put (g1.nx+5) (.cells [.int .i64 0,.str [],.str []] true false)).put (g1.nx+6) (.cells [.str [],.nilsl,.int .i64 0,.bool false,.int .i64 0,.int .i64 0,.nilsl] true false)).put (g1.nx+5) (.cells [.int .i64 x.dev,.str x.dfolder,.str x.rc.path] true false)).put (g1.nx+6) (.cells [.str x.rc.path,v1,.int .i64 x.rc.own,.bool x.rc.gone,.int .i64 x.rc.size,.int .i64 x.rc.len,d1] true false))=g3
 have n3:g3.nx=g2.nx:=by rw [←hg3];rfl
 have f13:Fr g1 g3:=by rw [←hg3];exact (((f12.put _ (by omega)).put _ (by omega)).put _ (by omega)).put _ (by omega)
 have q5:g3.get (g1.nx+5)=some (.cells [.int .i64 x.dev,.str x.dfolder,.str x.rc.path] true false):=by rw [←hg3];exact (AH.get_put_ne (by omega)).trans (AH.get_put_eq rfl)
 have q6:g3.get (g1.nx+6)=some (.cells [.str x.rc.path,v1,.int .i64 x.rc.own,.bool x.rc.gone,.int .i64 x.rc.size,.int .i64 x.rc.len,d1] true false):=by rw [←hg3];exact AH.get_put_eq rfl
 clear hg3
 have q3:=(f13.get _ (by omega)).trans q1
 have fh3:=f1.trans f13
 have hz3:=hz.fr fh3
 have hbd:=hI.bd n l hi
 have hl6:l.length<1000000:=by omega
 have hp6:∀y∈l,y.past.length<1000000:=fun y hy=>by have:=hbd.2 y hy;omega
 have hst:=hI.st n l hi
 have hr3:Ra K g3 [.str x.rc.path,v1,.int .i64 x.rc.own,.bool x.rc.gone,.int .i64 x.rc.size,.int .i64 x.rc.len,d1] x.rc:=hrc.fr fh3
 have hr30:Ra (fun _=>0) g3 [.str x.rc.path,v1,.int .i64 x.rc.own,.bool x.rc.gone,.int .i64 x.rc.size,.int .i64 x.rc.len,d1] x.rc:=hr3.col fun _ _ _=>rfl
 have c1:C[1]? = some (.int .i64 x.dev):=by rw [←hC];rfl
 have c7:C[7]? = some (.str x.dfolder):=by rw [←hC];rfl
 have c16:C[16]? = some (.str x.copy):=by rw [←hC];rfl
 have c17:C[17]? = some (.str x.cp.path):=by rw [←hC];rfl
 have cl2:2≤C.length:=by omega
 have cl8:8≤C.length:=by omega
 have cl17:17≤C.length:=by omega
 have cl18:18≤C.length:=by omega
 have cl24:24≤C.length:=by omega
 have c17r:(C.drop 17).take 7=[.str x.cp.path,v2,.int .i64 x.cp.own,.bool x.cp.gone,.int .i64 x.cp.size,.int .i64 x.cp.len,d2]:=by rw [←hC];rfl
 have hcp:Ra K h [.str x.cp.path,v2,.int .i64 x.cp.own,.bool x.cp.gone,.int .i64 x.cp.size,.int .i64 x.cp.len,d2] x.cp:=⟨v2,d2,rfl,h4,h5,h6⟩
 have en:=fun g a=>neSb g a []
 refine callK_of (takenC hS.toMo (x.dev,(x.dfolder,x.rc.path)) hz3.vs.vw hr30) ?_
 rintro v g4 ⟨⟨bt,rfl,_⟩,f4⟩
 have n4:=f4.nx
 cases bt
 ·simp -dsimp only [go_sem]
  exact ⟨2,K,l,s,rfl,hz3.fr f4,fr_zg (fh3.trans f4) K,fun hh=>by cases hh⟩
 have q54:=(f4.get _ (by omega)).trans q5
 have q64:=(f4.get _ (by omega)).trans q6
 simp -dsimp only [go_sem,q54,q64,o1,o2,p1,p2]
 refine callK_of (backC hS.toMo (x.dev,(x.dfolder,x.rc.path)) (hz3.fr f4).vs.vw hst (hr30.fr f4)) ?_
 rintro v g5 ⟨rfl,f5⟩
 have n5:=f5.nx
 cases hbk:backF l (x.dev,(x.dfolder,x.rc.path)) x.rc
 case true =>
  simp -dsimp only [go_sem,hbk]
  exact ⟨3,K,l,s,rfl,(hz3.fr f4).fr f5,fr_zg ((fh3.trans f4).trans f5) K,fun hh=>by cases hh⟩
 have q35:=(f5.get h.nx (by omega)).trans ((f4.get _ (by omega)).trans q3)
 have q55:=(f5.get _ (by omega)).trans q54
 have q65:=(f5.get _ (by omega)).trans q64
 simp -dsimp only [go_sem,hbk,q35,q55,q65,c30,cl30]
 refine callK_of (copiedC hS ((hz3.fr f4).fr f5) (((hx0.fr fh3).fr f4).fr f5)) ?_
 rintro v g6 ⟨⟨bc,rfl,hbc⟩,f6⟩
 have n6:=f6.nx
 have fh6:=(((fh3.trans f4).trans f5).trans f6)
 have hz6:=hz.fr fh6
 cases bc
 ·simp -dsimp only [go_sem]
  exact ⟨4,K,l,s,rfl,hz6,fr_zg fh6 K,fun hh=>by cases hh⟩
 have q36:=(f6.get h.nx (by omega)).trans q35
 have q56:=(f6.get _ (by omega)).trans q55
 have q66:=(f6.get _ (by omega)).trans q65
 have f67:Fr g6 ((g6.new (.cells [.int .i64 0,.str [],.str []] true false)).put g6.nx (.cells [.int .i64 x.dev,.str x.dfolder,.str x.copy] true false)):=(Fr.new _ _).put _ (Nat.le_refl _)
 have w7:((g6.new (.cells [.int .i64 0,.str [],.str []] true false)).put g6.nx (.cells [.int .i64 x.dev,.str x.dfolder,.str x.copy] true false)).get g6.nx=some (.cells [.int .i64 x.dev,.str x.dfolder,.str x.copy] true false):=AH.get_put_eq rfl
 have n7:((g6.new (.cells [.int .i64 0,.str [],.str []] true false)).put g6.nx (.cells [.int .i64 x.dev,.str x.dfolder,.str x.copy] true false)).nx=g6.nx+1:=rfl
 by_cases hp:x.cp.path=[]
 ·have dp:decide (x.cp.path=[])=true:=decide_eq_true hp
  simp (maxSteps:=9^9) -dsimp (disch:=repeat first|rw [nxn]|rw [nxp]|omega) only [go_sem,q36,c1,c7,c16,c17,cl2,cl8,cl17,cl18,cl24,bldK,bE,en,dp,q56,q66,o1,o2,p1,p2]
  generalize ((g6.new (.cells [.int .i64 0,.str [],.str []] true false)).put g6.nx (.cells [.int .i64 x.dev,.str x.dfolder,.str x.copy] true false))=g7 at f67 w7 n7 ⊢
  have fh7:=fh6.trans f67
  refine callK_of (setC hS (x.dev,(x.dfolder,x.rc.path)) (hz.fr fh7) (hrc.fr fh7) hl6 hp6) ?_
  rintro v g8 ⟨rfl,KF,hzF,zgF⟩
  try simp -dsimp only [go_sem]
  exact ⟨0,KF,_,s,rfl,hzF,(fr_zg fh7 K).trans zgF,fun _=>⟨hI.mono _ _ _ (hI.set n l _ _ hi rfl hbk) (by omega),hb.mono (by omega)⟩⟩
 ·have dp:decide (x.cp.path=[])=false:=decide_eq_false hp
  obtain ⟨hpc,hcr⟩:=hbc rfl hp
  simp (maxSteps:=9^9) -dsimp (disch:=repeat first|rw [nxn]|rw [nxp]|omega) only [go_sem,q36,c1,c7,c16,c17,c17r,cl2,cl8,cl17,cl18,cl24,bldK,bE,en,dp,o4,o5,p4,p5]
  generalize ((g6.new (.cells [.int .i64 0,.str [],.str []] true false)).put g6.nx (.cells [.int .i64 x.dev,.str x.dfolder,.str x.copy] true false))=g7 at f67 w7 n7 ⊢
  have fh7:=fh6.trans f67
  have q57:=(f67.get _ (by omega)).trans q56
  have q67:=(f67.get _ (by omega)).trans q66
  try simp -dsimp (disch:=repeat first|rw [nxn]|rw [nxp]|omega) only [go_sem,w7]
  refine callK_of (putC hS (x.dev,(x.dfolder,x.copy)) (hz.fr fh7) (hcp.fr fh7) hl6 hp6 hst) ?_
  rintro v g8 hcase
  rcases hcase with ⟨rfl,hzz,zgg⟩ | ⟨rfl,hbk2,KK,hzz,zgg⟩
  ·simp -dsimp only [go_sem]
   exact ⟨3,K,l,s,rfl,hzz,(fr_zg fh7 K).trans zgg,fun hh=>by cases hh⟩
  ·have hi1:=hI.set n l (x.dev,(x.dfolder,x.copy)) x.cp hi hpc hbk2
   have hne:(x.dev,(x.dfolder,x.copy))≠(x.dev,(x.dfolder,x.rc.path)):=fun hh=>hcr (by injection hh with _ h2;injection h2)
   have hbk1:=hI.set2 n l (x.dev,(x.dfolder,x.copy)) (x.dev,(x.dfolder,x.rc.path)) x.cp x.rc hi hne hbk
   have hbd1:=hI.bd (n+1) _ hi1
   have zg7:=(fr_zg fh7 K).trans zgg
   have kz:∀j,h.nx≤j→K j=0:=hz.top
   have q58:=(zgg.gk.get (g1.nx+5) (by omega) (kz _ (by omega))).trans q57
   have q68:=(zgg.gk.get (g1.nx+6) (by omega) (kz _ (by omega))).trans q67
   have hr8:Ra KK g8 [.str x.rc.path,v1,.int .i64 x.rc.own,.bool x.rc.gone,.int .i64 x.rc.size,.int .i64 x.rc.len,d1] x.rc:=zg7.ra hrc
   simp -dsimp only [go_sem,q58,q68,o1,o2,p1,p2]
   refine callK_of (setC hS (x.dev,(x.dfolder,x.rc.path)) hzz hr8 (by omega) (fun y hy=>by have:=hbd1.2 y hy;omega)) ?_
   rintro v g9 ⟨rfl,KF,hzF,zgF⟩
   try simp -dsimp only [go_sem]
   exact ⟨0,KF,_,s,rfl,hzF,zg7.trans zgF,fun _=>⟨hI.mono _ _ _ (hI.set (n+1) _ _ _ hi1 rfl hbk1) (by omega),hb.mono (by omega)⟩⟩
end
def em (l:List (Int×AV)):List (AV×AV):=l.map fun e=>(.int .i64 e.1,e.2)
theorem eqA_int {P:Program} {h:AH} {t:TypeId} {kk:IntKind} (ht:P.underlying t=some (.int kk)) (a b:Int):eqA P h 12 t (.int .i64 a) (.int .i64 b)=some (a==b):=by simp [eqA,ht]
theorem findA_none {P:Program} {h:AH} {t:TypeId} {kk:IntKind} (ht:P.underlying t=some (.int kk)) (k:Int):∀(l:List (Int×AV)) (i:Nat),(∀e∈l,e.1≠k)→findA P h t (.int .i64 k) (em l) i=some none
 | [],i,_=>rfl
 | e::l,i,hh=>by
  have h1:(k==e.1)=false:=by simpa using fun h2=>hh e (List.mem_cons_self ..) h2.symm
  show (do let e'←eqA P h 12 t (.int .i64 k) (.int .i64 e.1);if e' then _ else findA P h t (.int .i64 k) (em l) (i+1))=_
  rw [eqA_int ht,h1]
  exact findA_none ht k l (i+1) fun e' he'=>hh e' (List.mem_cons_of_mem _ he')
theorem findA_some {P:Program} {h:AH} {t:TypeId} {kk:IntKind} (ht:P.underlying t=some (.int kk)) (k:Int) (v:AV) (l2:List (Int×AV)):∀(l:List (Int×AV)) (i:Nat),(∀e∈l,e.1≠k)→findA P h t (.int .i64 k) (em (l++(k,v)::l2)) i=some (some (i+l.length,.int .i64 k,v))
 | [],i,_=>by
  show (do let e'←eqA P h 12 t (.int .i64 k) (.int .i64 k);if e' then _ else findA P h t (.int .i64 k) (em l2) (i+1))=_
  rw [eqA_int ht]
  simp
 | e::l,i,hh=>by
  have h1:(k==e.1)=false:=by simpa using fun h2=>hh e (List.mem_cons_self ..) h2.symm
  show (do let e'←eqA P h 12 t (.int .i64 k) (.int .i64 e.1);if e' then _ else findA P h t (.int .i64 k) (em (l++(k,v)::l2)) (i+1))=_
  rw [eqA_int ht,h1]
  show findA P h t (.int .i64 k) (em (l++(k,v)::l2)) (i+1)=_
  rw [findA_some ht k v l2 l (i+1) fun e' he'=>hh e' (List.mem_cons_of_mem _ he')]
  simp only [List.length_cons,Option.some.injEq,Prod.mk.injEq,and_true]
  omega
theorem diff_em (k:Int):∀l:List (Int×AV),(∀e∈l,e.1≠k)→diffAll (.int .i64 k) (em l)=true
 | [],_=>rfl
 | e::l,hh=>by
  have h1:(e.1==k)=false:=by simpa using hh e (List.mem_cons_self ..)
  show (diffSimple (.int .i64 e.1) (.int .i64 k)&&diffAll (.int .i64 k) (em l))=true
  rw [diff_em k l fun e' he'=>hh e' (List.mem_cons_of_mem _ he')]
  simp [diffSimple,diffScalar,h1]
theorem muI {P:Program} {t kt et:TypeId} {kk:IntKind} (ht:P.underlying t=some (.map kt et)) (hk:P.underlying kt=some (.int kk)) {g:AH} {m:Nat} {l:List (Int×AV)} {bs:List Nat} {ck:Nat} (hg:g.get m=some (.map (em l) bs ck)) (k:Int) (v:AV) (hn:∀e∈l,e.1≠k) :
  evMapUpdate P g t (.map m) (.int .i64 k) v=some (.skip (g.put m (.map (em (l++[(k,v)])) (bs++[ck]) (ck+1)))):=by
 have hc:checkA P 12 kt (.int .i64 k)=true:=by simp [checkA,hk]
 unfold evMapUpdate
 simp only [ht,hg]
 rw [if_neg (by simp [hc,simpleA,scalarA])]
 simp only [findA_none hk k l 0 hn,Option.bind_eq_bind,Option.bind_some,diff_em k l hn,if_true]
 simp [em]
theorem luI {P:Program} {t kt et:TypeId} {kk:IntKind} (ht:P.underlying t=some (.map kt et)) (hk:P.underlying kt=some (.int kk)) {g:AH} {m:Nat} {l l2:List (Int×AV)} {bs:List Nat} {ck:Nat} {k:Int} {v:AV} (hg:g.get m=some (.map (em (l++(k,v)::l2)) bs ck)) (hn:∀e∈l,e.1≠k) :
  evLookup P g t (.map m) (.int .i64 k) false=some v:=by
 have hc:checkA P 12 kt (.int .i64 k)=true:=by simp [checkA,hk]
 unfold evLookup
 simp only [ht,hg,hc,Bool.not_true,Bool.false_eq_true,if_false,Option.bind_eq_bind,Option.bind_some,findA_some hk k v l2 l 0 hn]
 simp [lookRes]
theorem luN {P:Program} {t kt et:TypeId} {kk:IntKind} {z:Value} (ht:P.underlying t=some (.map kt et)) (hk:P.underlying kt=some (.int kk)) (hz:tzero P et=some z) {g:AH} {m:Nat} {l:List (Int×AV)} {bs:List Nat} {ck:Nat} {k:Int} (hg:g.get m=some (.map (em l) bs ck)) (hn:∀e∈l,e.1≠k) :
  evLookup P g t (.map m) (.int .i64 k) false=some (toAV z):=by
 have hc:checkA P 12 kt (.int .i64 k)=true:=by simp [checkA,hk]
 unfold evLookup
 simp only [ht,hg,hc,Bool.not_true,Bool.false_eq_true,if_false,Option.bind_eq_bind,Option.bind_some,findA_none hk k l 0 hn]
 simp [lookRes,hz]
theorem muE {P:Program} {t kt et:TypeId} {kk:IntKind} (ht:P.underlying t=some (.map kt et)) (hk:P.underlying kt=some (.int kk)) {g:AH} {m:Nat} {l:List (Int×AV)} (hg:∃bs ck,g.get m=some (.map (em l) bs ck)) (k:Int) (v:AV) (hn:∀e∈l,e.1≠k) :
  ∃g',evMapUpdate P g t (.map m) (.int .i64 k) v=some (.skip g')∧g'.nx=g.nx∧(∀j,j≠m→g'.get j=g.get j)∧∃bs ck,g'.get m=some (.map (em (l++[(k,v)])) bs ck):=by
 obtain ⟨bs,ck,hg⟩:=hg
 exact ⟨_,muI ht hk hg k v hn,rfl,fun j hj=>AH.get_put_ne hj,_,_,AH.get_put_eq rfl⟩
section
variable {S : Sums}
theorem didC (hS:Nf S) {Inv:Nat→List Hd→Prop} (hI:InvOK Inv) {n0 n b:Nat} {K:Nat→Nat} {h:AH} {p:Nat} {l:List Hd} {s:List Mt} {cs:List AV} {x:Se} (hz:Zs n0 K h p l s) (hx:Sa K h cs x) (hi:Inv n l) (hb:SB b s) (hn:n+20<1000000):RnC Tryz.prog S 43 [.ptr p 0,.agg cs] h (Act Inv n0 K h p (n+20) (b+1)):=by
 have hx0:=hx
 obtain ⟨v1,d1,v2,d2,rw',rv,rfl,h1,h2,h3,h4,h5,h6,h7,h8⟩:=hx
 have o1:=h1.ln.2.2.2
 have o2:=h2.ln.2.2
 have o4:=h4.ln.2.2.2
 have o5:=h5.ln.2.2
 have o7:=h7.ln.2.2
 have o8:=h8.ln.2.2
 have p1:=oneM o1
 have p2:=oneM o2
 have p4:=oneM o4
 have p5:=oneM o5
 have p7:=oneM o7
 have p8:=oneM o8
 have hrc:=Sa.rc (x:=x) h1 h2 h3
 have hrs:=hrc.sv
 have hxs:=hx0.sv
 refine RnC.enter' Tryz.f43 _ 25 [.tmp 4] (hS.nb _ _ _ (by simp)) bd43 Tryz.func43 rfl rfl rfl ?_
 simp -dsimp only [go_sem,o1,o2,o4,o5,o7,o8,p1,p2,p4,p5,p7,p8]
 generalize hC:([.int .i64 x.kind,.int .i64 x.dev,.int .i64 x.peer,.int .i64 x.num,.str x.folder,.str x.path,.int .i64 x.dkind,.str x.dfolder,.str x.dpath,.str x.rc.path,v1,.int .i64 x.rc.own,.bool x.rc.gone,.int .i64 x.rc.size,.int .i64 x.rc.len,d1,.str x.copy,.str x.cp.path,v2,.int .i64 x.cp.own,.bool x.cp.gone,.int .i64 x.cp.size,.int .i64 x.cp.len,d2,.int .i64 x.ckind,.str x.cfolder,.int .i64 x.cdev,.int .i64 x.mt.own,rw',rv]:List AV)=C at *
 have cl:C.length=30:=by rw [←hC];rfl
 have c6:C[6]? = some (.int .i64 x.dkind):=by rw [←hC];rfl
 have cl7:7≤C.length:=by omega
 have c30:C.take 30=C:=by rw [←hC];rfl
 have cl30:30≤C.length:=by omega
 have f2:Fr h ((h.new (.cells C true false)).new (.map [] [] 0)):=(Fr.new _ _).news _
 have q2:((h.new (.cells C true false)).new (.map [] [] 0)).get h.nx=some (.cells C true false):=(AH.get_new_ne (by simp [AH.new])).trans (AH.get_new_eq rfl)
 have m2:∃bs ck,((h.new (.cells C true false)).new (.map [] [] 0)).get (h.nx+1)=some (.map (em []) bs ck):=⟨[],0,AH.get_new_eq rfl⟩
 have n2:((h.new (.cells C true false)).new (.map [] [] 0)).nx=h.nx+2:=rfl
 generalize ((h.new (.cells C true false)).new (.map [] [] 0))=g2 at f2 q2 m2 n2 ⊢
 have hu:=Tryz.underlying110
 have hi3:=Tryz.underlying3
 obtain ⟨g3,s3,e3,o3,m3⟩:=muE hu hi3 m2 1 (.func (.func 56) [.ptr p 0] []) (by simp)
 obtain ⟨g4,s4,e4,o4,m4⟩:=muE hu hi3 m3 2 (.func (.func 57) [.ptr p 0] []) (by simp)
 obtain ⟨g5,s5,e5,o5,m5⟩:=muE hu hi3 m4 3 (.func (.func 58) [.ptr p 0] []) (by simp)
 obtain ⟨g6,s6,e6,o6,m6⟩:=muE hu hi3 m5 4 (.func (.func 59) [.ptr p 0] []) (by simp)
 have q6:=(o6 h.nx (by omega)).trans ((o5 _ (by omega)).trans ((o4 _ (by omega)).trans ((o3 _ (by omega)).trans q2)))
 have f6:Fr h g6:=⟨by omega,fun j hj=>(o6 j (by omega)).trans ((o5 j (by omega)).trans ((o4 j (by omega)).trans ((o3 j (by omega)).trans (f2.get j hj))))⟩
 obtain ⟨bs,ck,m6⟩:=m6
 simp only [List.nil_append,List.cons_append] at m6
 have hz6:=hz.fr f6
 have hx6:=hx0.fr f6
 have hk:x.dkind=1∨x.dkind=2∨x.dkind=3∨x.dkind=4∨(x.dkind≠1∧x.dkind≠2∧x.dkind≠3∧x.dkind≠4):=by omega
 rcases hk with hk | hk | hk | hk | ⟨hk1,hk2,hk3,hk4⟩
 ·have lk:=luI (P:=Tryz.prog) hu hi3 (l:=[]) (l2:=[(2,.func (.func 57) [.ptr p 0] []),(3,.func (.func 58) [.ptr p 0] []),(4,.func (.func 59) [.ptr p 0] [])]) (k:=1) (v:=.func (.func 56) [.ptr p 0] []) m6 (by simp)
  rw [←hk] at lk
  have hnf:∀g,binA Tryz.prog g .eql 101 (.func (.func 56) [.ptr p 0] []) .nilfunc=some (.bool false):=fun g=>by kernel_rfl
  simp -dsimp only [go_sem,s3,s4,s5,s6,q6,c6,cl7,lk,hnf,c30,cl30]
  refine callK_of (scannedC hS hI hz6 hx6 hi hb hn) ?_
  rintro v g7 ⟨why,KK,l',s',rfl,hzz,zgg,hok⟩
  try simp -dsimp only [go_sem]
  exact ⟨why,KK,l',s',rfl,hzz,(fr_zg f6 K).trans zgg,hok⟩
 ·have lk:=luI (P:=Tryz.prog) hu hi3 (l:=[(1,.func (.func 56) [.ptr p 0] [])]) (l2:=[(3,.func (.func 58) [.ptr p 0] []),(4,.func (.func 59) [.ptr p 0] [])]) (k:=2) (v:=.func (.func 57) [.ptr p 0] []) m6 (by simp)
  rw [←hk] at lk
  have hnf:∀g,binA Tryz.prog g .eql 101 (.func (.func 57) [.ptr p 0] []) .nilfunc=some (.bool false):=fun g=>by kernel_rfl
  simp -dsimp only [go_sem,s3,s4,s5,s6,q6,c6,cl7,lk,hnf,c30,cl30]
  refine callK_of (adoptedC hS hI hz6 hx6 hi hb hn) ?_
  rintro v g7 ⟨why,KK,l',s',rfl,hzz,zgg,hok⟩
  try simp -dsimp only [go_sem]
  exact ⟨why,KK,l',s',rfl,hzz,(fr_zg f6 K).trans zgg,hok⟩
 ·have lk:=luI (P:=Tryz.prog) hu hi3 (l:=[(1,.func (.func 56) [.ptr p 0] []),(2,.func (.func 57) [.ptr p 0] [])]) (l2:=[(4,.func (.func 59) [.ptr p 0] [])]) (k:=3) (v:=.func (.func 58) [.ptr p 0] []) m6 (by simp)
  rw [←hk] at lk
  have hnf:∀g,binA Tryz.prog g .eql 101 (.func (.func 58) [.ptr p 0] []) .nilfunc=some (.bool false):=fun g=>by kernel_rfl
  simp -dsimp only [go_sem,s3,s4,s5,s6,q6,c6,cl7,lk,hnf,c30,cl30]
  refine callK_of (tookC hS hI hz6 hx6 hi hb hn) ?_
  rintro v g7 ⟨why,KK,l',s',rfl,hzz,zgg,hok⟩
  try simp -dsimp only [go_sem]
  exact ⟨why,KK,l',s',rfl,hzz,(fr_zg f6 K).trans zgg,hok⟩
 ·have lk:=luI (P:=Tryz.prog) hu hi3 (l:=[(1,.func (.func 56) [.ptr p 0] []),(2,.func (.func 57) [.ptr p 0] []),(3,.func (.func 58) [.ptr p 0] [])]) (l2:=[]) (k:=4) (v:=.func (.func 59) [.ptr p 0] []) m6 (by simp)
  rw [←hk] at lk
  have hnf:∀g,binA Tryz.prog g .eql 101 (.func (.func 59) [.ptr p 0] []) .nilfunc=some (.bool false):=fun g=>by kernel_rfl
  simp -dsimp only [go_sem,s3,s4,s5,s6,q6,c6,cl7,lk,hnf,c30,cl30]
  refine callK_of (forgotC hS hI hz6 hx6 hi hb hn) ?_
  rintro v g7 ⟨why,KK,l',s',rfl,hzz,zgg,hok⟩
  try simp -dsimp only [go_sem]
  exact ⟨why,KK,l',s',rfl,hzz,(fr_zg f6 K).trans zgg,hok⟩
 ·have lk:=luN (P:=Tryz.prog) hu hi3 (show tzero Tryz.prog 101=some .nilFunc by kernel_rfl) (k:=x.dkind) (l:=[(1,.func (.func 56) [.ptr p 0] []),(2,.func (.func 57) [.ptr p 0] []),(3,.func (.func 58) [.ptr p 0] []),(4,.func (.func 59) [.ptr p 0] [])]) m6 (by simp;omega)
  have hnf:∀g,binA Tryz.prog g .eql 101 .nilfunc .nilfunc=some (.bool true):=fun g=>by kernel_rfl
  simp -dsimp only [go_sem,s3,s4,s5,s6,q6,c6,cl7,lk,hnf]
  exact ⟨0,K,l,s,rfl,hz6,fr_zg f6 K,fun _=>⟨hI.mono _ _ _ hi (by omega),hb.mono (by omega)⟩⟩
end
end Go.Proofs.YtihigekgnnoejaaGreatDoor.mdl
end