/- Texts joined: MU, MV, MW, MX. -/
import Derived.Test.YtihigekgnnoejaaGreatDoorG5
set_option maxRecDepth 100000
set_option linter.unusedVariables false
set_option linter.unusedSimpArgs false
set_option maxHeartbeats 32000000
section
namespace Go.Proofs.YtihigekgnnoejaaGreatDoor.mdl
open Go Go.Abs Go.Proofs
structure Mp (S:Sums):Prop extends Mo S where
 np:∀f args h,f∈[13,14,39,8,24,30,32,27,28,29,31,33,69,100]→S f args h=none
theorem bldS (a b:AV):evBuild Tryz.prog 73 [(0,.agg [a,b])]=some (.agg [a,b]):=by kernel_rfl
section
variable {S : Sums}
theorem knowsC (hS:Mp S) {K:Nat→Nat} {h:AH} {hv sv:AV} {l:List Hd} {cr:List AV} {r:Rc} (f:List Nat) (hH:Hs K h hv l) (os:oneA sv=true) (hr:Ra K h cr r):RnC Tryz.prog S 13 [.agg [hv,sv],.str f,.agg cr] h fun v h'=>v=.bool ((versF l f r.path).any fun x=>sameR x r)∧Fr h h':=by
 have hr0:=hr
 obtain ⟨w,d,rfl,hwv,hd,_⟩:=hr
 refine RnC.enter' Tryz.f13 _ 21 [.cell 6 4] (hS.np _ _ _ (by simp)) bd13 Tryz.func13 rfl rfl rfl ?_
 obtain ⟨lv,svv,ov⟩:=hH.ln
 have ow:=hwv.ln.2.2.2
 have od:=hd.ln.2.2
 have mw:=ow
 unfold oneA at mw
 have md:=od
 unfold oneA at md
 have mo:=ov
 unfold oneA at mo
 have ms:=os
 unfold oneA at ms
 simp -dsimp (disch:=repeat first | rw [nxn] | rw [nxp] | omega) only [go_sem,ow,od,mw,md,ov,os,mo,ms,bldS]
 generalize hg:((((h.new (.cells [hv,sv] true false)).new (.cells [.str r.path,w,.int .i64 r.own,.bool r.gone,.int .i64 r.size,.int .i64 r.len,d] true false)).new (.cells [.bool false] true false)).new (.cells [hv,sv] true false))=g1
 have n1:g1.nx=h.nx+4:=by rw [←hg];rfl
 have f1:Fr h g1:=by rw [←hg];exact (((Fr.new _ _).news _).news _).news _
 have q0:g1.get (h.nx+1+1+1)=some (.cells [hv,sv] true false):=by rw [←hg];exact AH.get_new_eq rfl
 have q1:g1.get (h.nx+1)=some (.cells [.str r.path,w,.int .i64 r.own,.bool r.gone,.int .i64 r.size,.int .i64 r.len,d] true false):=by rw [←hg];exact (AH.get_new_ne (by first | (simp [AH.new];done) | (simp [AH.new];omega))).trans ((AH.get_new_ne (by simp [AH.new])).trans (AH.get_new_eq rfl))
 have q3:g1.get (h.nx+1+1)=some (.cells [.bool false] true false):=by rw [←hg];exact (AH.get_new_ne (by simp [AH.new])).trans (AH.get_new_eq rfl)
 try simp -dsimp (disch:=repeat first | rw [nxn] | rw [nxp] | omega) only [go_sem,q0,q1]
 refine callK_of (knownC hS.toMo f r.path) ?_
 rintro v g2 ⟨rfl,hg2⟩
 have f2:Fr g1 g2:=by rw [hg2];exact ((Fr.new _ _).news _).news _
 have n2:g2.nx=g1.nx+3:=by rw [hg2];rfl
 have p1:g2.get g1.nx=some (.cells [.ptr (h.nx+1+1+1) 0] true false):=by rw [hg2];exact (AH.get_new_ne (by first | (simp [AH.new];done) | (simp [AH.new];omega))).trans ((AH.get_new_ne (by first | (simp [AH.new];done) | (simp [AH.new];omega))).trans (AH.get_new_eq rfl))
 have p2:g2.get (g1.nx+1)=some (.cells [.str f] true false):=by rw [hg2];exact (AH.get_new_ne (by simp [AH.new])).trans (AH.get_new_eq rfl)
 have p3:g2.get (g1.nx+2)=some (.cells [.str r.path] true false):=by rw [hg2];exact AH.get_new_eq rfl
 have p0:=(f2.get _ (by omega)).trans q0
 clear hg2
 simp -dsimp (disch:=repeat first | rw [nxn] | rw [nxp] | omega) only [go_sem,evLen,loopHead,bd50]
 generalize hlo:AO.loop LoopState.ready none _ _ _ _ _ _ _=lo
 have hp2:∀j,j<h.nx→(fun _:Nat=>0) j=0→Kb (Kb (fun _=>0) (h.nx+2) (h.nx+3)) g2.nx (g2.nx+2) j=0:=fun j hj hh=>(Kb.out (.inl (by omega))).trans (Kb.out (.inl (by omega)))
 have kz:∀j,j≠h.nx+2→(j<g2.nx∨g2.nx+2≤j)→Kb (Kb (fun _=>0) (h.nx+2) (h.nx+3)) g2.nx (g2.nx+2) j=0:=fun j h1 h2=>by rw [Kb.out h2,Kb.out (by omega)]
 have k1n:Kb (Kb (fun _=>0) (h.nx+2) (h.nx+3)) g2.nx (g2.nx+2) (g2.nx+1)≠0:=Kb.in (by omega) (by omega)
 have k2n:Kb (Kb (fun _=>0) (h.nx+2) (h.nx+3)) g2.nx (g2.nx+2) (h.nx+2)≠0:=by rw [Kb.out (by omega)];exact Kb.in (by omega) (by omega)
 generalize Kb (Kb (fun _=>0) (h.nx+2) (h.nx+3)) g2.nx (g2.nx+2)=K' at *
 have fin2:Fr g2 ((g2.new (.defs true)).new lo):=(Fr.new _ _).news _
 have hH3:=(((hH.col (K':=fun _=>0) fun _ _ _=>rfl).col hp2).fr f1).fr f2
 have hr3:=(((hr0.col (K':=fun _=>0) fun _ _ _=>rfl).col hp2).fr f1).fr f2
 have nn:((g2.new (.defs true)).new lo).nx=g2.nx+2:=rfl
 have frF:∀g,Gk K' g2 g→Fr h g:=fun g gk=>⟨by have:=gk.nx;omega,fun j hj=>(gk.get j (by omega) (kz j (by omega) (by omega))).trans ((f2.get j (by omega)).trans (f1.get j hj))⟩
 generalize hL:versF l f r.path=L
 refine callK_of (known1C hS.toMo (K:=K') (h0:=g2) (h:=(g2.new (.defs true)).new lo) (y:=g2.nx+1) (p:=h.nx+1+1+1) (bs:=g1.nx) (bf:=g1.nx+1) (bq:=g1.nx+2) (hv:=hv) (sv:=sv) (l:=l) (f:=f) (q:=r.path)
  (fun i g=>(L.take i).any (fun x=>sameR x r)=false∧g.get (h.nx+2)=some (.cells [.bool false] true false)∧g.get (g2.nx+1)=some lo∧g.get g2.nx=some (.defs true)∧g2.nx+2≤g.nx∧Gk K' g2 g)
  (fun g=>∃fn te n ps a b d,L.any (fun x=>sameR x r)=true∧g.get (h.nx+2)=some (.cells [.bool true] true false)∧g.get (g2.nx+1)=some (.loop .done (some .ret) fn te n ps a b d)∧g.get g2.nx=some (.defs true)∧g2.nx+2≤g.nx∧Gk K' g2 g)
  p0 (by omega) hH3 p1 (by omega) p2 (by omega) p3 (by omega) (kz _ (by omega) (by omega)) (kz _ (by omega) (by omega)) (kz _ (by omega) (by omega)) (kz _ (by omega) (by omega)) (fun i g hh=>hh.2.2.2.2.2) ?_ ?_ ?_) ?_
 ·rintro i g g' ⟨a0,a1,a2,a3,a4,a5⟩ ff
  have:=ff.nx
  exact ⟨a0,(ff.get _ (by omega)).trans a1,(ff.get _ (by omega)).trans a2,(ff.get _ (by omega)).trans a3,by omega,a5.trans (ff.gk _)⟩
 ·rintro i g cs x hxi ⟨a0,a1,a2,a3,a4,a5⟩ hxr
  rw [hL] at hxi
  rw [←hlo] at a2
  have hxr0:=hxr
  obtain ⟨wx,dx,rfl,hwx,hdx,_⟩:=hxr
  have ox:=hwx.ln.2.2.2
  have odx:=hdx.ln.2.2
  have mx:=ox
  unfold oneA at mx
  have mdx:=odx
  unfold oneA at mdx
  refine RnR.enter a2 (by simp [setArgs];rfl) ?_
  simp -dsimp (disch:=repeat first | rw [nxn] | rw [nxp] | omega) only [go_sem,evLen,ox,odx,mx,mdx]
  refine ⟨rfl,_,_,_,_,_,_,_,_,(AH.get_put_ne (by omega)).trans ((AH.get_new_ne (by omega)).trans a2),?_⟩
  refine busy_gen ?_
  intro gb e1 e2 e3
  dsimp only at e1 e2 e3
  have e1':gb.nx=g.nx+1:=e1
  have c3:Gk K' g gb:=⟨by omega,fun j hj hk=>(e2 j fun hh=>k1n (hh▸hk)).trans ((AH.get_put_ne (by omega)).trans (AH.get_new_ne (by omega)))⟩
  have bx:∀j o,j<g1.nx→j≠h.nx+2→g1.get j=some o→gb.get j=some o:=fun j o h1 h2 h3=>(c3.get j (by omega) (kz j h2 (by omega))).trans ((a5.get j (by omega) (kz j h2 (by omega))).trans ((f2.get j h1).trans h3))
  have z1:=bx _ _ (by omega) (by omega) q1
  have zx:gb.get g.nx=some (.cells [.str x.path,wx,.int .i64 x.own,.bool x.gone,.int .i64 x.size,.int .i64 x.len,dx] true false):=(e2 _ (by omega)).trans (AH.get_put_eq rfl)
  have c1:gb.get (h.nx+2)=some (.cells [.bool false] true false):=(e2 (h.nx+2) (by omega)).trans ((AH.get_put_ne (by omega)).trans ((AH.get_new_ne (by omega)).trans a1))
  have c2:gb.get g2.nx=some (.defs true):=(e2 g2.nx (by omega)).trans ((AH.get_put_ne (by omega)).trans ((AH.get_new_ne (by omega)).trans a3))
  simp -dsimp (disch:=repeat first | rw [nxn] | rw [nxp] | omega) only [go_sem,evLen,z1,zx,ow,od,ox,odx]
  refine callK_of (recSameC hS.toMr (hxr0.gk c3) ((hr3.gk a5).gk c3)) ?_
  rintro v g6 ⟨rfl,f6⟩
  have n6:=f6.nx
  have c6:=c3.trans (f6.gk K')
  have d1:g6.get (h.nx+1+1)=some (.cells [.bool false] true false):=(f6.get _ (by omega)).trans c1
  have d2:=(f6.get _ (by omega)).trans c2
  have d3:=(f6.get _ (by omega)).trans e3
  have c7:=a5.trans c6
  have htk:L.take (i+1)=L.take i++[x]:=by rw [List.take_add_one,hxi];rfl
  by_cases hsm:sameR x r=true
  ·simp -dsimp (disch:=repeat first | rw [nxn] | rw [nxp] | omega) only [go_sem,evLen,d1,hsm]
   have c4:Gk K' g (g6.put (h.nx+1+1) (.cells [.bool true] true false)):=c6.put (.inl k2n) _
   have c5:=a5.trans c4
   exact ⟨_,_,_,_,_,_,_,_,_,(AH.get_put_ne (by omega)).trans d3,.inr ⟨rfl,⟨_,_,_,_,_,_,_,List.any_eq_true.2 ⟨x,List.mem_iff_getElem?.2 ⟨i,hxi⟩,hsm⟩,(AH.get_put_ne (by omega)).trans (AH.get_put_eq rfl),AH.get_put_eq rfl,(AH.get_put_ne (by omega)).trans ((AH.get_put_ne (by omega)).trans d2),(by show g2.nx+2≤g6.nx;omega),c5.put (.inl k1n) _⟩⟩⟩
  ·rw [Bool.not_eq_true] at hsm
   simp -dsimp (disch:=repeat first | rw [nxn] | rw [nxp] | omega) only [go_sem,evLen,d1,hsm]
   exact ⟨_,_,_,_,_,_,_,_,_,d3,.inl ⟨rfl,by rw [htk,List.any_append,a0];simp [hsm],(AH.get_put_ne (by omega)).trans d1,by rw [←hlo];exact AH.get_put_eq rfl,(AH.get_put_ne (by omega)).trans d2,(by show g2.nx+2≤g6.nx;omega),c7.put (.inl k1n) _⟩⟩
 ·exact ⟨rfl,(fin2.get _ (by omega)).trans ((f2.get _ (by omega)).trans q3),AH.get_new_eq rfl,(AH.get_new_ne (by simp [AH.new])).trans (AH.get_new_eq rfl),by omega,fin2.gk _⟩
 ·rintro v g3 (⟨a0,a1,a2,a3,a4,a5⟩ | ⟨fn,te,n,ps,a,b,d,a0,a1,a2,a3,a4,a5⟩)
  ·rw [hL,List.take_length] at a0
   have a2':g3.get (g2.new (AO.defs true)).nx=_:=a2
   unfold loopTail
   rw [a2',←hlo]
   have w2:∀o,(g3.put (g2.nx+1) o).get g2.nx=some (.defs true):=fun o=>(AH.get_put_ne (by omega)).trans a3
   have w3:∀o o2,((g3.put (g2.nx+1) o).put g2.nx o2).get (h.nx+1+1)=some (.cells [.bool false] true false):=fun o o2=>(AH.get_put_ne (by omega)).trans ((AH.get_put_ne (by omega)).trans a1)
   have a1':g3.get (h.nx+1+1)=_:=a1
   simp -dsimp (disch:=repeat first | rw [nxn] | rw [nxp] | omega) only [go_sem,evLen,w2,w3,a1',takeMarks]
   have f5:=frF _ a5
   exact ⟨by rw [a0],⟨f5.nx,fun j hj=>(AH.get_put_ne (by omega)).trans ((AH.get_put_ne (by omega)).trans ((AH.get_put_ne (by omega)).trans (f5.get j hj)))⟩⟩
  ·have a2':g3.get (g2.new (AO.defs true)).nx=_:=a2
   unfold loopTail
   rw [a2']
   have w2:∀o,(g3.put (g2.nx+1) o).get g2.nx=some (.defs true):=fun o=>(AH.get_put_ne (by omega)).trans a3
   have w3:∀o o2,((g3.put (g2.nx+1) o).put g2.nx o2).get (h.nx+1+1)=some (.cells [.bool true] true false):=fun o o2=>(AH.get_put_ne (by omega)).trans ((AH.get_put_ne (by omega)).trans a1)
   have a1':g3.get (h.nx+1+1)=_:=a1
   simp -dsimp (disch:=repeat first | rw [nxn] | rw [nxp] | omega) only [go_sem,evLen,w2,w3,a1',takeMarks]
   have f5:=frF _ a5
   exact ⟨by rw [a0],⟨f5.nx,fun j hj=>(AH.get_put_ne (by omega)).trans ((AH.get_put_ne (by omega)).trans (f5.get j hj))⟩⟩
end
theorem aiRc:appI Tryz.prog 36=some (7,96):=by kernel_rfl
theorem ra7 {K:Nat→Nat} {h:AH} {cs:List AV} {r:Rc} (hb:Ra K h cs r):cs.length=7∧cs.all oneA=true:=by
 obtain ⟨v,d,rfl,h2,h3,_⟩:=hb
 exact ⟨rfl,by simp [h2.ln.2.2.2,h3.ln.2.2];simp [oneA]⟩
section
variable {S : Sums}
end
section
variable {S : Sums}
end
theorem neInt (h:AH) (t:TypeId) (a b:Int):binA Tryz.prog h .neq t (.int .i64 a) (.int .i64 b)=some (.bool (!decide (a=b))):=by
 show intA .neq .i64 a b=_
 by_cases e:a=b <;> simp [intA,e]
def Iv (K:Nat→Nat) (h:AH) (v:AV) (l:List Int):Prop:=Fl K 1 h v (l.flatMap fun i=>[AV.int .i64 i])∧l.length≤1000000
theorem Iv.gk {K:Nat→Nat} {h h':AH} {v:AV} {l:List Int} (hb:Iv K h v l) (g:Gk K h h'):Iv K h' v l:=⟨hb.1.gk g,hb.2⟩
theorem Iv.fr {K:Nat→Nat} {h h':AH} {v:AV} {l:List Int} (hb:Iv K h v l) (f:Fr h h'):Iv K h' v l:=hb.gk (f.gk K)
theorem Iv.col {K K':Nat→Nat} {h:AH} {v:AV} {l:List Int} (hb:Iv K h v l) (hk:∀j,j<h.nx→K j=0→K' j=0):Iv K' h v l:=⟨hb.1.col hk,hb.2⟩
theorem ivc_len (l:List Int):(l.flatMap fun i=>[AV.int .i64 i]).length=l.length*1:=flat_len _ 1 (fun _=>rfl) l
theorem Iv.ln {K:Nat→Nat} {h:AH} {v:AV} {l:List Int} (hb:Iv K h v l):(∀g,evLen Tryz.prog g #[82] v=some (.int .i64 (l.length:Nat)))∧sameAV 20 v v=true∧oneA v=true :=
 ⟨Fl.len hb.1 Tryz.underlying82 (by decide) (ivc_len l),Fl.one hb.1⟩
theorem Iv.at {K:Nat→Nat} {h:AH} {v:AV} {l:List Int} {i:Nat} {c:Int} (hb:Iv K h v l) (hi:l[i]? = some c):∃id off cc cs o t,v=.sl id off l.length 1 cc∧h.get id=some (.cells cs o t)∧id<h.nx∧K id=0∧off+i*1+1≤cs.length∧cs[off+i]? = some (.int .i64 c):=by
 have hil:i<l.length:=(List.getElem?_eq_some_iff.1 hi).1
 obtain ⟨id,off,cc,cs,o,t,h1,h2,h3,h4,h5,h6,h7⟩:=Fl.at hb.1 (by decide) (ivc_len l) hil
 obtain ⟨e1,e2⟩:=flat_at (fun i=>[AV.int .i64 i]) 1 (fun _=>rfl) hi
 have e3:=(h7 0 (by decide)).trans (e2 0 (by decide))
 rw [Nat.mul_one] at e3
 exact ⟨id,off,cc,cs,o,t,h1,h2,h3,h4,h5,e3⟩
structure Rw where
 folder:List Nat
 own:List Int
deriving DecidableEq
def Wa (K:Nat→Nat) (h:AH) (cs:List AV) (r:Rw):Prop:=∃v,cs=[.str r.folder,v]∧Iv K h v r.own
theorem Wa.gk {K:Nat→Nat} {h h':AH} {cs:List AV} {r:Rw} (hb:Wa K h cs r) (g:Gk K h h'):Wa K h' cs r:=let ⟨v,e,h1⟩:=hb;⟨v,e,h1.gk g⟩
theorem Wa.col {K K':Nat→Nat} {h:AH} {cs:List AV} {r:Rw} (hb:Wa K h cs r) (hk:∀j,j<h.nx→K j=0→K' j=0):Wa K' h cs r:=let ⟨v,e,h1⟩:=hb;⟨v,e,h1.col hk⟩
def Ws (K:Nat→Nat) (h:AH) (v:AV) (l:List Rw):Prop:=Sl K 2 (Wa K h) h v l∧l.length≤1000000
theorem Ws.gk {K:Nat→Nat} {h h':AH} {v:AV} {l:List Rw} (hb:Ws K h v l) (g:Gk K h h'):Ws K h' v l:=⟨hb.1.gk g fun cs x hx=>hx.gk g,hb.2⟩
theorem Ws.fr {K:Nat→Nat} {h h':AH} {v:AV} {l:List Rw} (hb:Ws K h v l) (f:Fr h h'):Ws K h' v l:=hb.gk (f.gk K)
theorem Ws.col {K K':Nat→Nat} {h:AH} {v:AV} {l:List Rw} (hb:Ws K h v l) (hk:∀j,j<h.nx→K j=0→K' j=0):Ws K' h v l:=⟨hb.1.col hk fun cs x hx=>hx.col hk,hb.2⟩
theorem Ws.ln {K:Nat→Nat} {h:AH} {v:AV} {l:List Rw} (hb:Ws K h v l):(∀g,evLen Tryz.prog g #[41] v=some (.int .i64 (l.length:Nat)))∧sameAV 20 v v=true∧oneA v=true :=
 ⟨Sl.len hb.1 Tryz.underlying41,Sl.one hb.1⟩
theorem Ws.el {K:Nat→Nat} {h:AH} {v:AV} {l:List Rw} {i:Nat} {x:Rw} (hb:Ws K h v l) (hi:l[i]? = some x):∃id off c cs o t w,v=.sl id off l.length 2 c∧h.get id=some (.cells cs o t)∧id<h.nx∧off+i*2+2≤cs.length∧(cs.drop (off+i*2)).take 2=[.str x.folder,w]∧Iv K h w x.own:=by
 obtain ⟨id,off,c,cs,o,t,h1,h2,h3,h4,h5,⟨w,e1,e2⟩,h7⟩:=Sl.at hb.1 hi
 exact ⟨id,off,c,cs,o,t,w,h1,h2,h3,h5,e1,e2⟩
structure Mt where
 own:Int
 rows:List Rw
deriving DecidableEq
def Ma (K:Nat→Nat) (h:AH) (cs:List AV) (r:Mt):Prop:=∃v,cs=[.int .i64 r.own,v]∧Ws K h v r.rows
theorem Ma.gk {K:Nat→Nat} {h h':AH} {cs:List AV} {r:Mt} (hb:Ma K h cs r) (g:Gk K h h'):Ma K h' cs r:=let ⟨v,e,h1⟩:=hb;⟨v,e,h1.gk g⟩
theorem Ma.fr {K:Nat→Nat} {h h':AH} {cs:List AV} {r:Mt} (hb:Ma K h cs r) (f:Fr h h'):Ma K h' cs r:=hb.gk (f.gk K)
theorem Ma.col {K K':Nat→Nat} {h:AH} {cs:List AV} {r:Mt} (hb:Ma K h cs r) (hk:∀j,j<h.nx→K j=0→K' j=0):Ma K' h cs r:=let ⟨v,e,h1⟩:=hb;⟨v,e,h1.col hk⟩
def Ms (K:Nat→Nat) (h:AH) (v:AV) (l:List Mt):Prop:=Sl K 2 (Ma K h) h v l∧l.length≤1000000
theorem Ms.gk {K:Nat→Nat} {h h':AH} {v:AV} {l:List Mt} (hb:Ms K h v l) (g:Gk K h h'):Ms K h' v l:=⟨hb.1.gk g fun cs x hx=>hx.gk g,hb.2⟩
theorem Ms.fr {K:Nat→Nat} {h h':AH} {v:AV} {l:List Mt} (hb:Ms K h v l) (f:Fr h h'):Ms K h' v l:=hb.gk (f.gk K)
theorem Ms.col {K K':Nat→Nat} {h:AH} {v:AV} {l:List Mt} (hb:Ms K h v l) (hk:∀j,j<h.nx→K j=0→K' j=0):Ms K' h v l:=⟨hb.1.col hk fun cs x hx=>hx.col hk,hb.2⟩
theorem Ms.ln {K:Nat→Nat} {h:AH} {v:AV} {l:List Mt} (hb:Ms K h v l):(∀g,evLen Tryz.prog g #[26] v=some (.int .i64 (l.length:Nat)))∧sameAV 20 v v=true∧oneA v=true :=
 ⟨Sl.len hb.1 Tryz.underlying26,Sl.one hb.1⟩
theorem Ms.el {K:Nat→Nat} {h:AH} {v:AV} {l:List Mt} {i:Nat} {x:Mt} (hb:Ms K h v l) (hi:l[i]? = some x):∃id off c cs o t w,v=.sl id off l.length 2 c∧h.get id=some (.cells cs o t)∧id<h.nx∧off+i*2+2≤cs.length∧(cs.drop (off+i*2)).take 2=[.int .i64 x.own,w]∧Ws K h w x.rows:=by
 obtain ⟨id,off,c,cs,o,t,h1,h2,h3,h4,h5,⟨w,e1,e2⟩,h7⟩:=Sl.at hb.1 hi
 exact ⟨id,off,c,cs,o,t,w,h1,h2,h3,h5,e1,e2⟩
instance:DecidableEq Rc:=fun a b=>decidable_of_iff (sameR a b=true) sameR_iff
section
variable {S : Sums}
theorem eqRcC (hS:Mp S) {K:Nat→Nat} {h:AH} {v w:AV} {a b:List Rc} {f:FuncId} (hv:Rs K h v a) (hw:Rs K h w b) (hf:∀g ca cb x y,Fr h g→Ra K g ca x→Ra K g cb y→RnC Tryz.prog S f [.agg ca,.agg cb] g fun r g'=>r=.bool (decide (x=y))∧Fr g g'):RnC Tryz.prog S 27 [v,w,.func (.func f) [] []] h fun r h'=>r=.bool (decide (a=b))∧Fr h h':=by
 refine RnC.enter' Tryz.f27 _ 32 [.tmp 6] (hS.np _ _ _ (by simp)) bd27 Tryz.func27 rfl rfl rfl ?_
 obtain ⟨lv,sv,ov⟩:=hv.ln
 obtain ⟨lw,sw,ow⟩:=hw.ln
 have ha:=hv.2
 by_cases hab:((a.length:Nat):Int)=((b.length:Nat):Int)
 case neg =>
  have:¬a=b:=fun hh=>hab (by rw [hh])
  simp -dsimp (disch:=repeat first | rw [nxn] | rw [nxp] | omega) only [go_sem,lv,ov,lw,ow,hab]
  exact ⟨by simp [this],Fr.refl _⟩
 simp -dsimp (disch:=repeat first | rw [nxn] | rw [nxp] | omega) only [go_sem,lv,ov,lw,ow,hab]
 refine loopK_of (RnL.rounds (Q:=fun ex u=>u.d=[]∧Fr h u.h∧(ex=.exit 0∧a=b∨ex=.ret∧u.t.get 6=some (.bool false)∧¬a=b))
  (fun m u=>u.d=[]∧Fr h u.h∧u.t.get 0=some v∧u.t.get 1=some w∧u.t.get 2=some (.func (.func f) [] [])∧u.t.get 15=some v∧u.t.get 16=some (.int .i64 (a.length:Nat))∧∃i:Nat,u.t.get 17=some (.int .i64 (i:Nat))∧i≤a.length∧(a=b↔a.drop i=b.drop i)∧m=a.length-i) ?_ a.length ?_) ?_
 ·rintro m ⟨tt,g,d⟩ ⟨e2,e1,g0,g1,g2,g15,g16,i,g17,hi,hiff,rfl⟩
  dsimp only at e1 e2 g0 g1 g2 g15 g16 g17
  subst e2
  by_cases c4:(i:Int)<(a.length:Nat)
  ·have hil:i<a.length:=by omega
   have hib:i<b.length:=by omega
   obtain ⟨p,hp⟩:∃p,a[i]? = some p:=⟨_,List.getElem?_eq_getElem hil⟩
   obtain ⟨q,hq⟩:∃q,b[i]? = some q:=⟨_,List.getElem?_eq_getElem hib⟩
   obtain ⟨id,off,c,cs,o,tx,x1,d1,rfl,hgi,hidl,hle,hE,ew,ed,ep,_⟩:=(hv.fr e1).el hp
   obtain ⟨id2,off2,cc,cs2,oo,tx2,x2,d2,rfl,hgi2,hidl2,hle2,hE2,ew2,ed2,ep2,_⟩:=(hw.fr e1).el hq
   have o1:=ew.ln.2.2.2
   have o2:=ed.ln.2.2
   have o3:=ew2.ln.2.2.2
   have o4:=ed2.ln.2.2
   have q1:=o1
   unfold oneA at q1
   have q2:=o2
   unfold oneA at q2
   have q3:=o3
   unfold oneA at q3
   have q4:=o4
   unfold oneA at q4
   rw [drop_at hp,drop_at hq] at hiff
   have n1:=fun o:AO=>(AH.get_new_ne (h:=g) (o:=o) (Nat.ne_of_lt hidl2)).trans hgi2
   have f1:Fr g ((g.new (.cells [.str [],.nilsl,.int .i64 0,.bool false,.int .i64 0,.int .i64 0,.nilsl] true false)).put g.nx (.cells [.str p.path,x1,.int .i64 p.own,.bool p.gone,.int .i64 p.size,.int .i64 p.len,d1] true false)):=(Fr.new _ _).put _ (Nat.le_refl _)
   have m1:((g.new (.cells [.str [],.nilsl,.int .i64 0,.bool false,.int .i64 0,.int .i64 0,.nilsl] true false)).put g.nx (.cells [.str p.path,x1,.int .i64 p.own,.bool p.gone,.int .i64 p.size,.int .i64 p.len,d1] true false)).get g.nx=some (.cells [.str p.path,x1,.int .i64 p.own,.bool p.gone,.int .i64 p.size,.int .i64 p.len,d1] true false):=AH.get_put_eq rfl
   have m2:=(f1.get _ hidl2).trans hgi2
   have f2:Fr ((g.new (.cells [.str [],.nilsl,.int .i64 0,.bool false,.int .i64 0,.int .i64 0,.nilsl] true false)).put g.nx (.cells [.str p.path,x1,.int .i64 p.own,.bool p.gone,.int .i64 p.size,.int .i64 p.len,d1] true false)) ((((g.new (.cells [.str [],.nilsl,.int .i64 0,.bool false,.int .i64 0,.int .i64 0,.nilsl] true false)).put g.nx (.cells [.str p.path,x1,.int .i64 p.own,.bool p.gone,.int .i64 p.size,.int .i64 p.len,d1] true false)).new (.cells [.str [],.nilsl,.int .i64 0,.bool false,.int .i64 0,.int .i64 0,.nilsl] true false)).put (g.nx+1) (.cells [.str q.path,x2,.int .i64 q.own,.bool q.gone,.int .i64 q.size,.int .i64 q.len,d2] true false)):=(Fr.new _ _).put _ (Nat.le_refl _)
   have m3:=(f2.get g.nx (Nat.lt_succ_self _)).trans m1
   simp -dsimp (disch:=repeat first | rw [nxn] | rw [nxp] | omega) only [go_sem,c4,g0,g1,g2,g15,g16,g17,hil,hib,hgi,hle,hE,o1,o2,o3,o4,q1,q2,q3,q4,m1,m2,hle2,hE2,m3]
   refine callK_of (hf _ _ _ p q (e1.trans (f1.trans f2)) ⟨x1,d1,rfl,ew.fr (f1.trans f2),ed.fr (f1.trans f2),ep⟩ ⟨x2,d2,rfl,ew2.fr (f1.trans f2),ed2.fr (f1.trans f2),ep2⟩) ?_
   rintro r g6 ⟨rfl,f6⟩
   by_cases hpq:p=q
   ·have hd:decide (p=q)=true:=decide_eq_true hpq
    simp -dsimp (disch:=repeat first | rw [nxn] | rw [nxp] | omega) only [go_sem,hd,g0,g1,g2,g15,g16,g17]
    exact ⟨a.length-(i+1),by omega,trivial,(e1.trans (f1.trans f2)).trans f6,trivial,trivial,trivial,trivial,trivial,i+1,rfl,by omega,by rw [hiff];simp [hpq],rfl⟩
   ·have hd:decide (p=q)=false:=decide_eq_false hpq
    simp -dsimp (disch:=repeat first | rw [nxn] | rw [nxp] | omega) only [go_sem,hd,g0,g1,g2,g15,g16,g17]
    exact ⟨trivial,(e1.trans (f1.trans f2)).trans f6,.inr ⟨trivial,trivial,by rw [hiff];simp [hpq]⟩⟩
  ·have:i=a.length:=by omega
   subst this
   simp -dsimp (disch:=repeat first | rw [nxn] | rw [nxp] | omega) only [go_sem,c4,g0,g1,g2,g15,g16,g17]
   exact ⟨trivial,e1,.inl ⟨trivial,hiff.2 (by rw [List.drop_of_length_le (by omega),List.drop_of_length_le (by omega)])⟩⟩
 ·simp -dsimp (disch:=repeat first | rw [nxn] | rw [nxp] | omega) only [go_sem]
  exact ⟨trivial,Fr.refl _,trivial,trivial,trivial,trivial,by first | trivial | rw [hab],0,rfl,Nat.zero_le _,by simp,rfl⟩
 ·rintro ex ⟨tt,g,d⟩ ⟨rfl,e1,⟨rfl,hab'⟩ | ⟨rfl,t4,hab'⟩⟩
  ·dsimp only at e1
   simp -dsimp (disch:=repeat first | rw [nxn] | rw [nxp] | omega) only [go_sem]
   exact ⟨by simp [hab'],e1⟩
  ·dsimp only at e1 t4
   simp -dsimp (disch:=repeat first | rw [nxn] | rw [nxp] | omega) only [go_sem,t4]
   exact ⟨by simp [hab'],e1⟩
theorem eqRwC (hS:Mp S) {K:Nat→Nat} {h:AH} {v w:AV} {a b:List Rw} {f:FuncId} (hv:Ws K h v a) (hw:Ws K h w b) (hf:∀g ca cb x y,Fr h g→Wa K g ca x→Wa K g cb y→RnC Tryz.prog S f [.agg ca,.agg cb] g fun r g'=>r=.bool (decide (x=y))∧Fr g g'):RnC Tryz.prog S 31 [v,w,.func (.func f) [] []] h fun r h'=>r=.bool (decide (a=b))∧Fr h h':=by
 refine RnC.enter' Tryz.f31 _ 32 [.tmp 6] (hS.np _ _ _ (by simp)) bd31 Tryz.func31 rfl rfl rfl ?_
 obtain ⟨lv,sv,ov⟩:=hv.ln
 obtain ⟨lw,sw,ow⟩:=hw.ln
 have ha:=hv.2
 by_cases hab:((a.length:Nat):Int)=((b.length:Nat):Int)
 case neg =>
  have:¬a=b:=fun hh=>hab (by rw [hh])
  simp -dsimp (disch:=repeat first | rw [nxn] | rw [nxp] | omega) only [go_sem,lv,ov,lw,ow,hab]
  exact ⟨by simp [this],Fr.refl _⟩
 simp -dsimp (disch:=repeat first | rw [nxn] | rw [nxp] | omega) only [go_sem,lv,ov,lw,ow,hab]
 refine loopK_of (RnL.rounds (Q:=fun ex u=>u.d=[]∧Fr h u.h∧(ex=.exit 0∧a=b∨ex=.ret∧u.t.get 6=some (.bool false)∧¬a=b))
  (fun m u=>u.d=[]∧Fr h u.h∧u.t.get 0=some v∧u.t.get 1=some w∧u.t.get 2=some (.func (.func f) [] [])∧u.t.get 15=some v∧u.t.get 16=some (.int .i64 (a.length:Nat))∧∃i:Nat,u.t.get 17=some (.int .i64 (i:Nat))∧i≤a.length∧(a=b↔a.drop i=b.drop i)∧m=a.length-i) ?_ a.length ?_) ?_
 ·rintro m ⟨tt,g,d⟩ ⟨e2,e1,g0,g1,g2,g15,g16,i,g17,hi,hiff,rfl⟩
  dsimp only at e1 e2 g0 g1 g2 g15 g16 g17
  subst e2
  by_cases c4:(i:Int)<(a.length:Nat)
  ·have hil:i<a.length:=by omega
   have hib:i<b.length:=by omega
   obtain ⟨p,hp⟩:∃p,a[i]? = some p:=⟨_,List.getElem?_eq_getElem hil⟩
   obtain ⟨q,hq⟩:∃q,b[i]? = some q:=⟨_,List.getElem?_eq_getElem hib⟩
   obtain ⟨id,off,c,cs,o,tx,x1,rfl,hgi,hidl,hle,hE,ew⟩:=(hv.fr e1).el hp
   obtain ⟨id2,off2,cc,cs2,oo,tx2,x2,rfl,hgi2,hidl2,hle2,hE2,ew2⟩:=(hw.fr e1).el hq
   have o1:=ew.ln.2.2
   have o3:=ew2.ln.2.2
   have q1:=o1
   unfold oneA at q1
   have q3:=o3
   unfold oneA at q3
   rw [drop_at hp,drop_at hq] at hiff
   have n1:=fun o:AO=>(AH.get_new_ne (h:=g) (o:=o) (Nat.ne_of_lt hidl2)).trans hgi2
   have f1:Fr g ((g.new (.cells [.str [],.nilsl] true false)).put g.nx (.cells [.str p.folder,x1] true false)):=(Fr.new _ _).put _ (Nat.le_refl _)
   have m1:((g.new (.cells [.str [],.nilsl] true false)).put g.nx (.cells [.str p.folder,x1] true false)).get g.nx=some (.cells [.str p.folder,x1] true false):=AH.get_put_eq rfl
   have m2:=(f1.get _ hidl2).trans hgi2
   have f2:Fr ((g.new (.cells [.str [],.nilsl] true false)).put g.nx (.cells [.str p.folder,x1] true false)) ((((g.new (.cells [.str [],.nilsl] true false)).put g.nx (.cells [.str p.folder,x1] true false)).new (.cells [.str [],.nilsl] true false)).put (g.nx+1) (.cells [.str q.folder,x2] true false)):=(Fr.new _ _).put _ (Nat.le_refl _)
   have m3:=(f2.get g.nx (Nat.lt_succ_self _)).trans m1
   simp -dsimp (disch:=repeat first | rw [nxn] | rw [nxp] | omega) only [go_sem,c4,g0,g1,g2,g15,g16,g17,hil,hib,hgi,hle,hE,o1,o3,q1,q3,m1,m2,hle2,hE2,m3]
   refine callK_of (hf _ _ _ p q (e1.trans (f1.trans f2)) ⟨x1,rfl,ew.fr (f1.trans f2)⟩ ⟨x2,rfl,ew2.fr (f1.trans f2)⟩) ?_
   rintro r g6 ⟨rfl,f6⟩
   by_cases hpq:p=q
   ·have hd:decide (p=q)=true:=decide_eq_true hpq
    simp -dsimp (disch:=repeat first | rw [nxn] | rw [nxp] | omega) only [go_sem,hd,g0,g1,g2,g15,g16,g17]
    exact ⟨a.length-(i+1),by omega,trivial,(e1.trans (f1.trans f2)).trans f6,trivial,trivial,trivial,trivial,trivial,i+1,rfl,by omega,by rw [hiff];simp [hpq],rfl⟩
   ·have hd:decide (p=q)=false:=decide_eq_false hpq
    simp -dsimp (disch:=repeat first | rw [nxn] | rw [nxp] | omega) only [go_sem,hd,g0,g1,g2,g15,g16,g17]
    exact ⟨trivial,(e1.trans (f1.trans f2)).trans f6,.inr ⟨trivial,trivial,by rw [hiff];simp [hpq]⟩⟩
  ·have:i=a.length:=by omega
   subst this
   simp -dsimp (disch:=repeat first | rw [nxn] | rw [nxp] | omega) only [go_sem,c4,g0,g1,g2,g15,g16,g17]
   exact ⟨trivial,e1,.inl ⟨trivial,hiff.2 (by rw [List.drop_of_length_le (by omega),List.drop_of_length_le (by omega)])⟩⟩
 ·simp -dsimp (disch:=repeat first | rw [nxn] | rw [nxp] | omega) only [go_sem]
  exact ⟨trivial,Fr.refl _,trivial,trivial,trivial,trivial,by first | trivial | rw [hab],0,rfl,Nat.zero_le _,by simp,rfl⟩
 ·rintro ex ⟨tt,g,d⟩ ⟨rfl,e1,⟨rfl,hab'⟩ | ⟨rfl,t4,hab'⟩⟩
  ·dsimp only at e1
   simp -dsimp (disch:=repeat first | rw [nxn] | rw [nxp] | omega) only [go_sem]
   exact ⟨by simp [hab'],e1⟩
  ·dsimp only at e1 t4
   simp -dsimp (disch:=repeat first | rw [nxn] | rw [nxp] | omega) only [go_sem,t4]
   exact ⟨by simp [hab'],e1⟩
theorem eqMtC (hS:Mp S) {K:Nat→Nat} {h:AH} {v w:AV} {a b:List Mt} {f:FuncId} (hv:Ms K h v a) (hw:Ms K h w b) (hf:∀g ca cb x y,Fr h g→Ma K g ca x→Ma K g cb y→RnC Tryz.prog S f [.agg ca,.agg cb] g fun r g'=>r=.bool (decide (x=y))∧Fr g g'):RnC Tryz.prog S 29 [v,w,.func (.func f) [] []] h fun r h'=>r=.bool (decide (a=b))∧Fr h h':=by
 refine RnC.enter' Tryz.f29 _ 32 [.tmp 6] (hS.np _ _ _ (by simp)) bd29 Tryz.func29 rfl rfl rfl ?_
 obtain ⟨lv,sv,ov⟩:=hv.ln
 obtain ⟨lw,sw,ow⟩:=hw.ln
 have ha:=hv.2
 by_cases hab:((a.length:Nat):Int)=((b.length:Nat):Int)
 case neg =>
  have:¬a=b:=fun hh=>hab (by rw [hh])
  simp -dsimp (disch:=repeat first | rw [nxn] | rw [nxp] | omega) only [go_sem,lv,ov,lw,ow,hab]
  exact ⟨by simp [this],Fr.refl _⟩
 simp -dsimp (disch:=repeat first | rw [nxn] | rw [nxp] | omega) only [go_sem,lv,ov,lw,ow,hab]
 refine loopK_of (RnL.rounds (Q:=fun ex u=>u.d=[]∧Fr h u.h∧(ex=.exit 0∧a=b∨ex=.ret∧u.t.get 6=some (.bool false)∧¬a=b))
  (fun m u=>u.d=[]∧Fr h u.h∧u.t.get 0=some v∧u.t.get 1=some w∧u.t.get 2=some (.func (.func f) [] [])∧u.t.get 15=some v∧u.t.get 16=some (.int .i64 (a.length:Nat))∧∃i:Nat,u.t.get 17=some (.int .i64 (i:Nat))∧i≤a.length∧(a=b↔a.drop i=b.drop i)∧m=a.length-i) ?_ a.length ?_) ?_
 ·rintro m ⟨tt,g,d⟩ ⟨e2,e1,g0,g1,g2,g15,g16,i,g17,hi,hiff,rfl⟩
  dsimp only at e1 e2 g0 g1 g2 g15 g16 g17
  subst e2
  by_cases c4:(i:Int)<(a.length:Nat)
  ·have hil:i<a.length:=by omega
   have hib:i<b.length:=by omega
   obtain ⟨p,hp⟩:∃p,a[i]? = some p:=⟨_,List.getElem?_eq_getElem hil⟩
   obtain ⟨q,hq⟩:∃q,b[i]? = some q:=⟨_,List.getElem?_eq_getElem hib⟩
   obtain ⟨id,off,c,cs,o,tx,x1,rfl,hgi,hidl,hle,hE,ew⟩:=(hv.fr e1).el hp
   obtain ⟨id2,off2,cc,cs2,oo,tx2,x2,rfl,hgi2,hidl2,hle2,hE2,ew2⟩:=(hw.fr e1).el hq
   have o1:=ew.ln.2.2
   have o3:=ew2.ln.2.2
   have q1:=o1
   unfold oneA at q1
   have q3:=o3
   unfold oneA at q3
   rw [drop_at hp,drop_at hq] at hiff
   have n1:=fun o:AO=>(AH.get_new_ne (h:=g) (o:=o) (Nat.ne_of_lt hidl2)).trans hgi2
   have f1:Fr g ((g.new (.cells [.int .i64 0,.nilsl] true false)).put g.nx (.cells [.int .i64 p.own,x1] true false)):=(Fr.new _ _).put _ (Nat.le_refl _)
   have m1:((g.new (.cells [.int .i64 0,.nilsl] true false)).put g.nx (.cells [.int .i64 p.own,x1] true false)).get g.nx=some (.cells [.int .i64 p.own,x1] true false):=AH.get_put_eq rfl
   have m2:=(f1.get _ hidl2).trans hgi2
   have f2:Fr ((g.new (.cells [.int .i64 0,.nilsl] true false)).put g.nx (.cells [.int .i64 p.own,x1] true false)) ((((g.new (.cells [.int .i64 0,.nilsl] true false)).put g.nx (.cells [.int .i64 p.own,x1] true false)).new (.cells [.int .i64 0,.nilsl] true false)).put (g.nx+1) (.cells [.int .i64 q.own,x2] true false)):=(Fr.new _ _).put _ (Nat.le_refl _)
   have m3:=(f2.get g.nx (Nat.lt_succ_self _)).trans m1
   simp -dsimp (disch:=repeat first | rw [nxn] | rw [nxp] | omega) only [go_sem,c4,g0,g1,g2,g15,g16,g17,hil,hib,hgi,hle,hE,o1,o3,q1,q3,m1,m2,hle2,hE2,m3]
   refine callK_of (hf _ _ _ p q (e1.trans (f1.trans f2)) ⟨x1,rfl,ew.fr (f1.trans f2)⟩ ⟨x2,rfl,ew2.fr (f1.trans f2)⟩) ?_
   rintro r g6 ⟨rfl,f6⟩
   by_cases hpq:p=q
   ·have hd:decide (p=q)=true:=decide_eq_true hpq
    simp -dsimp (disch:=repeat first | rw [nxn] | rw [nxp] | omega) only [go_sem,hd,g0,g1,g2,g15,g16,g17]
    exact ⟨a.length-(i+1),by omega,trivial,(e1.trans (f1.trans f2)).trans f6,trivial,trivial,trivial,trivial,trivial,i+1,rfl,by omega,by rw [hiff];simp [hpq],rfl⟩
   ·have hd:decide (p=q)=false:=decide_eq_false hpq
    simp -dsimp (disch:=repeat first | rw [nxn] | rw [nxp] | omega) only [go_sem,hd,g0,g1,g2,g15,g16,g17]
    exact ⟨trivial,(e1.trans (f1.trans f2)).trans f6,.inr ⟨trivial,trivial,by rw [hiff];simp [hpq]⟩⟩
  ·have:i=a.length:=by omega
   subst this
   simp -dsimp (disch:=repeat first | rw [nxn] | rw [nxp] | omega) only [go_sem,c4,g0,g1,g2,g15,g16,g17]
   exact ⟨trivial,e1,.inl ⟨trivial,hiff.2 (by rw [List.drop_of_length_le (by omega),List.drop_of_length_le (by omega)])⟩⟩
 ·simp -dsimp (disch:=repeat first | rw [nxn] | rw [nxp] | omega) only [go_sem]
  exact ⟨trivial,Fr.refl _,trivial,trivial,trivial,trivial,by first | trivial | rw [hab],0,rfl,Nat.zero_le _,by simp,rfl⟩
 ·rintro ex ⟨tt,g,d⟩ ⟨rfl,e1,⟨rfl,hab'⟩ | ⟨rfl,t4,hab'⟩⟩
  ·dsimp only at e1
   simp -dsimp (disch:=repeat first | rw [nxn] | rw [nxp] | omega) only [go_sem]
   exact ⟨by simp [hab'],e1⟩
  ·dsimp only at e1 t4
   simp -dsimp (disch:=repeat first | rw [nxn] | rw [nxp] | omega) only [go_sem,t4]
   exact ⟨by simp [hab'],e1⟩
theorem eqInC (hS:Mp S) {K:Nat→Nat} {h:AH} {v w:AV} {a b:List Int} (hv:Iv K h v a) (hw:Iv K h w b):RnC Tryz.prog S 33 [v,w] h fun r h'=>r=.bool (decide (a=b))∧Fr h h':=by
 refine RnC.enter' Tryz.f33 _ 26 [.tmp 4] (hS.np _ _ _ (by simp)) bd33 Tryz.func33 rfl rfl rfl ?_
 obtain ⟨lv,sv,ov⟩:=hv.ln
 obtain ⟨lw,sw,ow⟩:=hw.ln
 have ha:=hv.2
 by_cases hab:((a.length:Nat):Int)=((b.length:Nat):Int)
 case neg =>
  have:¬a=b:=fun hh=>hab (by rw [hh])
  simp -dsimp (disch:=repeat first | rw [nxn] | rw [nxp] | omega) only [go_sem,lv,ov,lw,ow,hab]
  exact ⟨by simp [this],Fr.refl _⟩
 simp -dsimp (disch:=repeat first | rw [nxn] | rw [nxp] | omega) only [go_sem,lv,ov,lw,ow,hab]
 refine loopK_of (RnL.rounds (Q:=fun ex u=>u.d=[]∧Fr h u.h∧(ex=.exit 0∧a=b∨ex=.ret∧u.t.get 4=some (.bool false)∧¬a=b))
  (fun m u=>u.d=[]∧Fr h u.h∧u.t.get 0=some v∧u.t.get 1=some w∧u.t.get 12=some (.int .i64 (a.length:Nat))∧∃i:Nat,u.t.get 13=some (.int .i64 (i:Nat))∧i≤a.length∧(a=b↔a.drop i=b.drop i)∧m=a.length-i) ?_ a.length ?_) ?_
 ·rintro m ⟨tt,g,d⟩ ⟨e2,e1,g0,g1,g12,i,g13,hi,hiff,rfl⟩
  dsimp only at e1 e2 g0 g1 g12 g13
  subst e2
  by_cases c4:(i:Int)<(a.length:Nat)
  ·have hil:i<a.length:=by omega
   have hib:i<b.length:=by omega
   obtain ⟨p,hp⟩:∃p,a[i]? = some p:=⟨_,List.getElem?_eq_getElem hil⟩
   obtain ⟨q,hq⟩:∃q,b[i]? = some q:=⟨_,List.getElem?_eq_getElem hib⟩
   obtain ⟨id,off,c,cs,o,tx,rfl,hgi,hidl,_,hle,hx⟩:=Iv.at hv hp
   obtain ⟨id2,off2,cc,cs2,oo,tx2,rfl,hgi2,hidl2,_,hle2,hx2⟩:=Iv.at hw hq
   have hgx:=(e1.get id hidl).trans hgi
   have hgx2:=(e1.get id2 hidl2).trans hgi2
   have hn:=fun g=>neInt g 3 p q
   have hy:cs[off+i*1]? = some (.int .i64 p):=by rw [Nat.mul_one];exact hx
   have hy2:cs2[off2+i*1]? = some (.int .i64 q):=by rw [Nat.mul_one];exact hx2
   rw [drop_at hp,drop_at hq] at hiff
   simp -dsimp (disch:=repeat first | rw [nxn] | rw [nxp] | omega) only [go_sem,c4,g0,g1,g12,g13]
   refine syDraw.keepN 0 (fun _=>True) (by kernel_rfl) (by kernel_rfl) rfl ?_
   by_cases hpq:p=q
   ·have hd:decide (p=q)=true:=decide_eq_true hpq
    simp -dsimp (disch:=repeat first | rw [nxn] | rw [nxp] | omega) only [go_sem,hil,hib,hgx,hgx2,hle,hle2,hx,hx2,hy,hy2,hn,hd,g0,g1,g12,g13]
    exact ⟨a.length-(i+1),by omega,trivial,e1.more _ (by omega),trivial,trivial,trivial,i+1,rfl,by omega,by rw [hiff];simp [hpq],rfl⟩
   ·have hd:decide (p=q)=false:=decide_eq_false hpq
    simp -dsimp (disch:=repeat first | rw [nxn] | rw [nxp] | omega) only [go_sem,hil,hib,hgx,hgx2,hle,hle2,hx,hx2,hy,hy2,hn,hd,g0,g1,g12,g13]
    exact ⟨trivial,e1.more _ (by omega),.inr ⟨trivial,trivial,by rw [hiff];simp [hpq]⟩⟩
  ·have:i=a.length:=by omega
   subst this
   simp -dsimp (disch:=repeat first | rw [nxn] | rw [nxp] | omega) only [go_sem,c4,g0,g1,g12,g13]
   exact ⟨trivial,e1,.inl ⟨trivial,hiff.2 (by rw [List.drop_of_length_le (by omega),List.drop_of_length_le (by omega)])⟩⟩
 ·simp -dsimp (disch:=repeat first | rw [nxn] | rw [nxp] | omega) only [go_sem]
  exact ⟨trivial,Fr.refl _,trivial,trivial,by rw [hab],0,rfl,Nat.zero_le _,by simp,rfl⟩
 ·rintro ex ⟨tt,g,d⟩ ⟨rfl,e1,⟨rfl,hab'⟩ | ⟨rfl,t4,hab'⟩⟩
  ·dsimp only at e1
   simp -dsimp (disch:=repeat first | rw [nxn] | rw [nxp] | omega) only [go_sem]
   exact ⟨by simp [hab'],e1⟩
  ·dsimp only at e1 t4
   simp -dsimp (disch:=repeat first | rw [nxn] | rw [nxp] | omega) only [go_sem,t4]
   exact ⟨by simp [hab'],e1⟩
end
end Go.Proofs.YtihigekgnnoejaaGreatDoor.mdl
end