/- Texts joined: MLm. -/
import Derived.Test.YtihigekgnnoejaaGreatDoorG1
import Derived.Test.YtihigekgnnoejaaGreatDoorG4
set_option maxRecDepth 100000
set_option linter.unusedVariables false
set_option linter.unusedSimpArgs false
set_option maxHeartbeats 16000000
section
namespace Go.Proofs.YtihigekgnnoejaaGreatDoor.mdl
open Go Go.Abs Go.Proofs
section
variable {S : Sums}
theorem rSameLX (hS:Nx S) {K:Nat→Nat} {h:AH} {v w:AV} {s n s' n':Int} {l m:List Dg} (hv:Dv K h v l) (hw:Dv K h w m):RnC Tryz.prog S 34 [.agg [.int .i64 s,.int .i64 n,v],.agg [.int .i64 s',.int .i64 n',w]] h fun r h'=>r=.bool (decide (s=s')&&(decide (n=n')&&decide (l=m)))∧Fr h h':=by
 refine RnC.enter' Tryz.f34 _ 45 [.tmp 4] (hS.nx8 _ _ _ (by simp)) bd34 Tryz.func34 rfl rfl rfl ?_
 obtain ⟨lv,sv,ov⟩:=hv.ln
 obtain ⟨lw,sw,ow⟩:=hw.ln
 have mv:=oneM ov
 have mw:=oneM ow
 have hl:=hv.2
 have f1:Fr h ((h.new (.cells [.int .i64 s,.int .i64 n,v] true false)).new (.cells [.int .i64 s',.int .i64 n',w] true false)):=(Fr.new _ _).news _
 by_cases c1:s=s'
 case neg =>
  simp (maxSteps:=9^9) -dsimp (disch:=repeat first|rw [nxn]|rw [nxp]|omega) only [go_sem,ov,ow,mv,mw,lv,lw,c1]
  exact ⟨by simp,f1⟩
 subst c1
 by_cases c2:n=n'
 case neg =>
  simp (maxSteps:=9^9) -dsimp (disch:=repeat first|rw [nxn]|rw [nxp]|omega) only [go_sem,ov,ow,mv,mw,lv,lw,c2]
  exact ⟨by simp,f1⟩
 subst c2
 by_cases c3:((l.length:Nat):Int)=(m.length:Nat)
 case neg =>
  simp (maxSteps:=9^9) -dsimp (disch:=repeat first|rw [nxn]|rw [nxp]|omega) only [go_sem,ov,ow,mv,mw,lv,lw,c3]
  have:¬l=m:=fun hh=>c3 (by rw [hh])
  exact ⟨by simp [this],f1⟩
 simp (maxSteps:=9^9) -dsimp (disch:=repeat first|rw [nxn]|rw [nxp]|omega) only [go_sem,ov,ow,mv,mw,lv,lw,c3]
 generalize hg:((h.new (.cells [.int .i64 s,.int .i64 n,v] true false)).new (.cells [.int .i64 s,.int .i64 n,w] true false))=g1 at f1 ⊢
 have n1:g1.nx=h.nx+1+1:=by rw [←hg];rfl
 have q0:g1.get h.nx=some (.cells [.int .i64 s,.int .i64 n,v] true false):=by rw [←hg];exact (AH.get_new_ne (by simp [AH.new])).trans (AH.get_new_eq rfl)
 have q1:g1.get (h.nx+1)=some (.cells [.int .i64 s,.int .i64 n,w] true false):=by rw [←hg];exact AH.get_new_eq rfl
 clear hg
 try simp (maxSteps:=9^9) -dsimp (disch:=repeat first|rw [nxn]|rw [nxp]|omega) only [go_sem,q0,q1,ov,ow,mv,mw,lv,lw]
 refine loopK_of (RnL.rounds (Q:=fun ex u=>u.d=[]∧Fr h u.h∧(ex=.exit 0∧l=m∨ex=.ret∧u.t.get 4=some (.bool false)∧¬l=m))
  (fun k u=>u.d=[]∧Fr h u.h∧u.h.get h.nx=some (.cells [.int .i64 s,.int .i64 n,v] true false)∧u.h.get (h.nx+1)=some (.cells [.int .i64 s,.int .i64 n,w] true false)∧u.t.get 2=some (.ptr h.nx 0)∧u.t.get 3=some (.ptr (h.nx+1) 0)∧∃i:Nat,u.t.get 5=some (.int .i64 (i:Nat))∧i≤l.length∧(l=m↔l.drop i=m.drop i)∧k=l.length-i) ?_ l.length ?_) ?_
 ·rintro k ⟨tt,g,q⟩ ⟨e2,e1,b0,b1,t2,t3,i,t5,hi,hiff,rfl⟩
  dsimp only at e1 e2 b0 b1 t2 t3 t5
  subst e2
  by_cases c4:(i:Int)<(l.length:Nat)
  ·have hil:i<l.length:=by omega
   have him:i<m.length:=by omega
   obtain ⟨p,hp⟩:∃p,l[i]? = some p:=⟨_,List.getElem?_eq_getElem hil⟩
   obtain ⟨p',hp'⟩:∃p,m[i]? = some p:=⟨_,List.getElem?_eq_getElem him⟩
   obtain ⟨id,off,cc,cs,o,tx,rfl,hgi,hidl,_,hle,hx⟩:=Dv.at hv hp
   obtain ⟨id2,off2,cc2,cs2,oo,tx2,rfl,hgi2,hidl2,_,hle2,hx2⟩:=Dv.at hw hp'
   have hgx:=(e1.get id hidl).trans hgi
   have hgx2:=(e1.get id2 hidl2).trans hgi2
   have hn:=fun g=>neDg g p p'
   rw [drop_at hp,drop_at hp'] at hiff
   simp (maxSteps:=9^9) -dsimp (disch:=repeat first|rw [nxn]|rw [nxp]|omega) only [go_sem,c4,b0,b1,t2,t3,t5,ov,ow,mv,mw,lv,lw]
   refine syDraw.keepN 0 (fun _=>True) (by kernel_rfl) (by kernel_rfl) rfl ?_
   by_cases hpp:p=p'
   ·have hd:decide (p=p')=true:=decide_eq_true hpp
    simp (maxSteps:=9^9) -dsimp (disch:=repeat first|rw [nxn]|rw [nxp]|omega) only [go_sem,hil,him,hgx,hgx2,hle,hle2,hx,hx2,hn,hd,b0,b1,t2,t3,t5,ov,ow,mv,mw]
    exact ⟨l.length-(i+1),by omega,trivial,e1.more _ (by omega),trivial,trivial,trivial,trivial,i+1,rfl,by omega,by rw [hiff];simp [hpp],rfl⟩
   ·have hd:decide (p=p')=false:=decide_eq_false hpp
    simp (maxSteps:=9^9) -dsimp (disch:=repeat first|rw [nxn]|rw [nxp]|omega) only [go_sem,hil,him,hgx,hgx2,hle,hle2,hx,hx2,hn,hd,b0,b1,t2,t3,t5,ov,ow,mv,mw]
    exact ⟨trivial,e1.more _ (by omega),.inr ⟨trivial,trivial,by rw [hiff];simp [hpp]⟩⟩
  ·obtain rfl:i=l.length:=by omega
   simp (maxSteps:=9^9) -dsimp (disch:=repeat first|rw [nxn]|rw [nxp]|omega) only [go_sem,c4,b0,b1,t2,t3,t5,ov,ow,mv,mw,lv,lw]
   exact ⟨trivial,e1,.inl ⟨trivial,hiff.2 (by rw [List.drop_of_length_le (by omega),List.drop_of_length_le (by omega)])⟩⟩
 ·simp (maxSteps:=9^9) -dsimp (disch:=repeat first|rw [nxn]|rw [nxp]|omega) only [go_sem]
  exact ⟨trivial,f1,q0,q1,trivial,trivial,0,rfl,Nat.zero_le _,by simp,rfl⟩
 ·rintro ex ⟨tt,g2,q⟩ ⟨rfl,e1,⟨rfl,hh⟩ | ⟨rfl,t4,hh⟩⟩
  ·dsimp only at e1
   simp (maxSteps:=9^9) -dsimp (disch:=repeat first|rw [nxn]|rw [nxp]|omega) only [go_sem]
   exact ⟨by simp [hh],e1⟩
  ·dsimp only at e1 t4
   simp (maxSteps:=9^9) -dsimp (disch:=repeat first|rw [nxn]|rw [nxp]|omega) only [go_sem,t4]
   exact ⟨by simp [hh],e1⟩
theorem rSameX (hS:Nx S) {K:Nat→Nat} {h:AH} {ca cb:List AV} {x y:Rc} (ha:Ra K h ca x) (hb:Ra K h cb y):RnC Tryz.prog S 9 [.agg ca,.agg cb] h fun r h'=>r=.bool (sameR x y)∧Fr h h':=by
 obtain ⟨v,d,rfl,hv,hd,_⟩:=ha
 obtain ⟨w,e,rfl,hw,he,_⟩:=hb
 refine RnC.enter' Tryz.f9 _ 60 [.tmp 4] (hS.nx8 _ _ _ (by simp)) bd9 Tryz.func9 rfl rfl rfl ?_
 obtain ⟨lv,_,sv,ov⟩:=hv.ln
 obtain ⟨lw,_,sw,ow⟩:=hw.ln
 obtain ⟨ld,sd,od⟩:=hd.ln
 obtain ⟨le,se,oe⟩:=he.ln
 have mv:=oneM ov
 have mw:=oneM ow
 have md:=oneM od
 have me:=oneM oe
 have hl:=hv.2
 have f1:Fr h ((h.new (.cells [.str x.path,v,.int .i64 x.own,.bool x.gone,.int .i64 x.size,.int .i64 x.len,d] true false)).new (.cells [.str y.path,w,.int .i64 y.own,.bool y.gone,.int .i64 y.size,.int .i64 y.len,e] true false)):=(Fr.new _ _).news _
 have es:∀g,binA Tryz.prog g .neq 9 (.str x.path) (.str y.path)=some (.bool (!decide (x.path=y.path))):=fun g=>by rw [neStr]
 by_cases c1:decide (x.path=y.path)=false
 ·simp (maxSteps:=9^9) -dsimp (disch:=repeat first|rw [nxn]|rw [nxp]|omega) only [go_sem,ov,ow,mv,mw,lv,lw,od,oe,md,me,es,c1]
  exact ⟨by simp [sameR,c1],f1⟩
 have c1:decide (x.path=y.path)=true:=by simpa using c1
 by_cases c2:((x.vec.length:Nat):Int)=(y.vec.length:Nat)
 case neg =>
  simp (maxSteps:=9^9) -dsimp (disch:=repeat first|rw [nxn]|rw [nxp]|omega) only [go_sem,ov,ow,mv,mw,lv,lw,od,oe,md,me,es,c1,c2]
  have:¬x.vec=y.vec:=fun hh=>c2 (by rw [hh])
  exact ⟨by simp [sameR,this],f1⟩
 by_cases c3:decide (x.own=y.own)=false
 ·simp (maxSteps:=9^9) -dsimp (disch:=repeat first|rw [nxn]|rw [nxp]|omega) only [go_sem,ov,ow,mv,mw,lv,lw,od,oe,md,me,es,c1,c2,c3]
  exact ⟨by simp [sameR,c3],f1⟩
 have c3:decide (x.own=y.own)=true:=by simpa using c3
 have eb:∀g,binA Tryz.prog g .neq 4 (.bool x.gone) (.bool y.gone)=some (.bool (!decide (x.gone=y.gone))):=fun g=>by cases x.gone <;> cases y.gone <;> rfl
 by_cases c5:decide (x.gone=y.gone)=false
 ·simp (maxSteps:=9^9) -dsimp (disch:=repeat first|rw [nxn]|rw [nxp]|omega) only [go_sem,ov,ow,mv,mw,lv,lw,od,oe,md,me,es,eb,c1,c2,c3,c5]
  exact ⟨by simp [sameR,c5],f1⟩
 have c5:decide (x.gone=y.gone)=true:=by simpa using c5
 simp (maxSteps:=9^9) -dsimp (disch:=repeat first|rw [nxn]|rw [nxp]|omega) only [go_sem,ov,ow,mv,mw,lv,lw,od,oe,md,me,es,eb,c1,c2,c3,c5]
 generalize hg:((h.new (.cells [.str x.path,v,.int .i64 x.own,.bool x.gone,.int .i64 x.size,.int .i64 x.len,d] true false)).new (.cells [.str y.path,w,.int .i64 y.own,.bool y.gone,.int .i64 y.size,.int .i64 y.len,e] true false))=g1 at f1 ⊢
 have n1:g1.nx=h.nx+1+1:=by rw [←hg];rfl
 have q0:g1.get h.nx=some (.cells [.str x.path,v,.int .i64 x.own,.bool x.gone,.int .i64 x.size,.int .i64 x.len,d] true false):=by rw [←hg];exact (AH.get_new_ne (by simp [AH.new])).trans (AH.get_new_eq rfl)
 have q1:g1.get (h.nx+1)=some (.cells [.str y.path,w,.int .i64 y.own,.bool y.gone,.int .i64 y.size,.int .i64 y.len,e] true false):=by rw [←hg];exact AH.get_new_eq rfl
 clear hg
 refine callK_of (rSameLX hS (hd.fr f1) (he.fr f1)) ?_
 rintro r g2 ⟨rfl,f2⟩
 have f12:=f1.trans f2
 have u0:=(f2.get _ (by omega)).trans q0
 have u1:=(f2.get _ (by omega)).trans q1
 have e1':x.path=y.path:=by simpa using c1
 have e5':x.gone=y.gone:=by simpa using c5
 cases hq:(decide (x.size=y.size)&&(decide (x.len=y.len)&&decide (x.digs=y.digs)))
 ·simp (maxSteps:=9^9) -dsimp (disch:=repeat first|rw [nxn]|rw [nxp]|omega) only [go_sem,hq]
  exact ⟨by simp only [sameR,sameL,hq,Bool.and_false],f12⟩
 simp (maxSteps:=9^9) -dsimp (disch:=repeat first|rw [nxn]|rw [nxp]|omega) only [go_sem,hq]
 refine loopK_of (RnL.rounds (Q:=fun ex u=>u.d=[]∧Fr h u.h∧(ex=.exit 0∧x.vec=y.vec∨ex=.ret∧u.t.get 4=some (.bool false)∧¬x.vec=y.vec))
  (fun k u=>u.d=[]∧Fr h u.h∧u.h.get h.nx=some (.cells [.str x.path,v,.int .i64 x.own,.bool x.gone,.int .i64 x.size,.int .i64 x.len,d] true false)∧u.h.get (h.nx+1)=some (.cells [.str y.path,w,.int .i64 y.own,.bool y.gone,.int .i64 y.size,.int .i64 y.len,e] true false)∧u.t.get 2=some (.ptr h.nx 0)∧u.t.get 3=some (.ptr (h.nx+1) 0)∧∃i:Nat,u.t.get 5=some (.int .i64 (i:Nat))∧i≤x.vec.length∧(x.vec=y.vec↔x.vec.drop i=y.vec.drop i)∧k=x.vec.length-i) ?_ x.vec.length ?_) ?_
 ·rintro k ⟨tt,g,q⟩ ⟨e2,e1,b0,b1,t2,t3,i,t5,hi,hiff,rfl⟩
  dsimp only at e1 e2 b0 b1 t2 t3 t5
  subst e2
  by_cases c4:(i:Int)<(x.vec.length:Nat)
  ·have hil:i<x.vec.length:=by omega
   have him:i<y.vec.length:=by omega
   obtain ⟨p,hp⟩:∃p,x.vec[i]? = some p:=⟨_,List.getElem?_eq_getElem hil⟩
   obtain ⟨p',hp'⟩:∃p,y.vec[i]? = some p:=⟨_,List.getElem?_eq_getElem him⟩
   obtain ⟨id,off,cc,cs,o,tx,rfl,hgi,hidl,_,hle,hx,_⟩:=Cv.at hv hp
   obtain ⟨id2,off2,cc2,cs2,oo,tx2,rfl,hgi2,hidl2,_,hle2,hx2,_⟩:=Cv.at hw hp'
   have hgx:=(e1.get id hidl).trans hgi
   have hgx2:=(e1.get id2 hidl2).trans hgi2
   have hn:=fun g=>neCt g p p'
   rw [drop_at hp,drop_at hp'] at hiff
   simp (maxSteps:=9^9) -dsimp (disch:=repeat first|rw [nxn]|rw [nxp]|omega) only [go_sem,c4,b0,b1,t2,t3,t5,ov,ow,mv,mw,lv,lw]
   refine syDraw.keepN 0 (fun _=>True) (by kernel_rfl) (by kernel_rfl) rfl ?_
   by_cases hpp:p=p'
   ·have hd:decide (p=p')=true:=decide_eq_true hpp
    simp (maxSteps:=9^9) -dsimp (disch:=repeat first|rw [nxn]|rw [nxp]|omega) only [go_sem,hil,him,hgx,hgx2,hle,hle2,hx,hx2,hn,hd,b0,b1,t2,t3,t5,ov,ow,mv,mw]
    exact ⟨x.vec.length-(i+1),by omega,trivial,e1.more _ (by omega),trivial,trivial,trivial,trivial,i+1,rfl,by omega,by rw [hiff];simp [hpp],rfl⟩
   ·have hd:decide (p=p')=false:=decide_eq_false hpp
    simp (maxSteps:=9^9) -dsimp (disch:=repeat first|rw [nxn]|rw [nxp]|omega) only [go_sem,hil,him,hgx,hgx2,hle,hle2,hx,hx2,hn,hd,b0,b1,t2,t3,t5,ov,ow,mv,mw]
    exact ⟨trivial,e1.more _ (by omega),.inr ⟨trivial,trivial,by rw [hiff];simp [hpp]⟩⟩
  ·obtain rfl:i=x.vec.length:=by omega
   simp (maxSteps:=9^9) -dsimp (disch:=repeat first|rw [nxn]|rw [nxp]|omega) only [go_sem,c4,b0,b1,t2,t3,t5,ov,ow,mv,mw,lv,lw]
   exact ⟨trivial,e1,.inl ⟨trivial,hiff.2 (by rw [List.drop_of_length_le (by omega),List.drop_of_length_le (by omega)])⟩⟩
 ·simp (maxSteps:=9^9) -dsimp (disch:=repeat first|rw [nxn]|rw [nxp]|omega) only [go_sem]
  exact ⟨trivial,f12,u0,u1,trivial,trivial,0,rfl,Nat.zero_le _,by simp,rfl⟩
 ·rintro ex ⟨tt,g2,q⟩ ⟨rfl,e1,⟨rfl,hh⟩ | ⟨rfl,t4,hh⟩⟩
  ·dsimp only at e1
   simp (maxSteps:=9^9) -dsimp (disch:=repeat first|rw [nxn]|rw [nxp]|omega) only [go_sem]
   exact ⟨by simp only [sameR,sameL,hq,e1',e5',c3,hh,decide_true,Bool.and_true],e1⟩
  ·dsimp only at e1 t4
   simp (maxSteps:=9^9) -dsimp (disch:=repeat first|rw [nxn]|rw [nxp]|omega) only [go_sem,t4]
   exact ⟨by simp [sameR,hh],e1⟩
end
end Go.Proofs.YtihigekgnnoejaaGreatDoor.mdl
end