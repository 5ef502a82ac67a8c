/- Texts joined: MIq, MIr, MIs. -/
import Derived.Test.YtihigekgnnoejaaGreatDoorH1
set_option maxRecDepth 100000
set_option linter.unusedVariables false
set_option linter.unusedSimpArgs false
set_option maxHeartbeats 64000000
section
namespace Go.Proofs.YtihigekgnnoejaaGreatDoor.mdl
open Go Go.Abs Go.Proofs
theorem Zs.at {n0:Nat} {K:Nat→Nat} {h:AH} {p:Nat} {l:List Hd} {s:List Mt} (z:Zs n0 K h p l s) {i:Nat} {x:Hd} (hx:l[i]? = some x):∃(id:Nat) (c:Option Nat) (css:List (List AV)) (sv nv nd pv:AV),
  h.get p=some (.cells [.sl id 0 l.length 12 c,sv] true false)∧h.get id=some (.cells css.flatten true false)∧i*12+12≤css.flatten.length∧(∀cs∈css,cs.length=12) ∧
  css[i]? = some [.int .i64 x.dev,.str x.folder,.str x.path,.str x.now.path,nv,.int .i64 x.now.own,.bool x.now.gone,.int .i64 x.now.size,.int .i64 x.now.len,nd,pv,.int .i64 (x.start:Nat)] ∧
  (∀k,k<12→css.flatten[i*12+k]? = ([.int .i64 x.dev,.str x.folder,.str x.path,.str x.now.path,nv,.int .i64 x.now.own,.bool x.now.gone,.int .i64 x.now.size,.int .i64 x.now.len,nd,pv,.int .i64 (x.start:Nat)]:List AV)[k]?) ∧
  Cv K h nv x.now.vec∧Dv K h nd x.now.digs∧x.now.path.length≤1000000∧Oz 7 Ra n0 K h pv x.past∧(∀a,blk pv=some a→K a=5)∧x.past.length≤1000000∧oneA sv=true∧id≠p∧id<h.nx ∧
  ∀(h':AH) (ds:List AV) (x':Hd),h'.nx=h.nx→h'.get id=some (.cells (css.set i ds).flatten true false)→(∀j,j≠id→h'.get j=h.get j)→(Gk K h h'→Oz 7 Ra n0 K h' pv x.past→Hy n0 K h' ds x')→ds[10]? = some pv→Zs n0 K h' p (l.set i x') s∧Gk K h h':=by
 obtain ⟨hv,sv,h1,h2,h3,h4⟩:=z.ob
 obtain ⟨id,c,css,cs,A,B,rfl,z2,z3,z4,z5,z6,zH,a3,a4,a6,hc,hid0,hid1,hid2⟩:=h2.at eyH hx
 have hr:=oy_len eyH a3 a4
 obtain ⟨nv,nd,pv,rfl,e1,e2,e3,e4,e5,e6⟩:=zH
 have hpn:=z.pn
 have hne:id≠p:=fun hh=>by rw [hh] at hid2;omega
 refine ⟨id,c,css,sv,nv,nd,pv,h1,z2,z6,hr,z3,fun k hk=>?_,e1,e2,e3,e4,e5,e6,h3.one.1,hne,hid1,fun h' ds x' hn hg hj hy hd=>?_⟩
 ·rw [z4,←z5,List.append_assoc,List.getElem?_append_right (by omega),Nat.add_sub_cancel_left,List.getElem?_append_left (by simpa using hk)]
 ·have gk:Gk K h h':=⟨by omega,fun j hj' hk=>hj j (fun hh=>by subst hh;omega)⟩
  have hpv:Oz 7 Ra n0 K h' pv x.past:=e4.keep elRa gk fun id' o n c hv=>hj _ (fun hh=>by have:=e5 id' (by rw [hv];rfl);rw [hh] at this;omega)
  have hin:inn 10 ds=inn 10 [.int .i64 x.dev,.str x.folder,.str x.path,.str x.now.path,nv,.int .i64 x.now.own,.bool x.now.gone,.int .i64 x.now.size,.int .i64 x.now.len,nd,pv,.int .i64 (x.start:Nat)]:=by
   unfold inn
   rw [hd]
   rfl
  have hoy:=h2.chg2 eyH (h':=h') (K':=K) rfl a3 a4 a6 hx z3 hg (by omega) (fun j _ _ hne' _=>hj j hne') (fun _ _=>rfl) (.inl hin) (hy gk hpv)
  exact ⟨⟨fun j hj=>z.top j (by omega),⟨_,sv,(hj p (Ne.symm hne)).trans h1,hoy,h3.keep elMa gk fun id' o n c hv=>hj _ (fun hh=>by have:=h4 id' (by rw [hv];rfl);rw [hh] at this;omega),h4⟩,⟨hpn.1,by omega,hpn.2.2⟩,by rw [List.length_set];exact z.ln⟩,gk⟩
def rc0:Rc:={ path:=[],vec:=[],own:=0,gone:=false,size:=0,len:=0,digs:=[] }
theorem bldRc0:evBuild Tryz.prog 36 []=some (.agg [.str [],.nilsl,.int .i64 0,.bool false,.int .i64 0,.int .i64 0,.nilsl]):=by kernel_rfl
def goneX (x:Hd):Hd:={ x with now:=rc0,start:=x.past.length }
def goneF (l:List Hd) (d:Int) (f:List Nat):List Hd:=l.map fun x=>if x.dev=d∧x.folder=f then goneX x else x
def forX (x:Hd):Hd:={ x with start:=if x.now.path=[] then x.past.length else x.past.length-1 }
def forF (l:List Hd) (f:List Nat):List Hd:=l.map fun x=>if x.folder=f then forX x else x
theorem two_put {css:List (List AV)} (hr:∀cs∈css,cs.length=12) {i k1 k2:Nat} {cs v1 v2:List AV} (hi:css[i]? = some cs) (h1:k1+v1.length≤12) (h2:k2+v2.length≤12):∃css1:List (List AV),putCells css.flatten (i*12+k1) v1=css1.flatten∧css1.flatten.length=css.flatten.length∧putCells css1.flatten (i*12+k2) v2=(css.set i (putCells (putCells cs k1 v1) k2 v2)).flatten:=by
 have hil:=(List.getElem?_eq_some_iff.1 hi).1
 have hcs:=hr _ (List.mem_of_getElem? hi)
 have hr1:∀c∈css.set i (putCells cs k1 v1),c.length=12:=fun c hc=>by
  rcases List.mem_or_eq_of_mem_set hc with hh | rfl
  ·exact hr _ hh
  ·rw [putCells_length _ _ _ (by omega),hcs]
 refine ⟨css.set i (putCells cs k1 v1),flz_put hr hi h1,by rw [flz hr1,flz hr,List.length_set],?_⟩
 rw [flz_put hr1 (cs:=putCells cs k1 v1) (by rw [List.getElem?_set,if_pos rfl,if_pos hil]) h2,List.set_set]
theorem mid_at {α:Type} {l:List α} {f:α→α} {i:Nat} {x:α} (hx:l[i]? = some x):((l.take i).map f++l.drop i)[i]? = some x:=by
 have hil:=(List.getElem?_eq_some_iff.1 hx).1
 rw [List.getElem?_append_right (by simp;omega),List.length_map,List.length_take,Nat.min_eq_left (by omega),Nat.sub_self,List.getElem?_drop,Nat.add_zero]
 exact hx
theorem mid_set {α:Type} {l:List α} {f:α→α} {i:Nat} {x:α} (hx:l[i]? = some x):((l.take i).map f++l.drop i).set i (f x)=(l.take (i+1)).map f++l.drop (i+1):=by
 have hil:=(List.getElem?_eq_some_iff.1 hx).1
 have hd:l.drop i=x::l.drop (i+1):=by rw [List.drop_eq_getElem_cons hil,(List.getElem?_eq_some_iff.1 hx).2]
 have hl:((l.take i).map f).length=i:=by rw [List.length_map,List.length_take,Nat.min_eq_left (by omega)]
 rw [hd,List.set_append_right _ _ (by omega),hl,Nat.sub_self,List.set_cons_zero,List.take_add_one,hx,List.map_append]
 simp
theorem mid_len {α:Type} (l:List α) (f:α→α) (i:Nat):((l.take i).map f++l.drop i).length=l.length:=by simp;omega
section
variable {S : Sums}
theorem eqSb (h:AH) (a b:List Nat):binA Tryz.prog h .eql 9 (.str a) (.str b)=some (.bool (decide (a=b))):=by rw [←eqL_eq];rfl
theorem neSb (h:AH) (a b:List Nat):binA Tryz.prog h .neq 9 (.str a) (.str b)=some (.bool (!decide (a=b))):=by rw [←eqL_eq];rfl
theorem goneC (hS:Nf S) {n0:Nat} {K:Nat→Nat} {h:AH} {p:Nat} {l:List Hd} {s:List Mt} (d:Int) (f:List Nat) (hz:Zs n0 K h p l s):RnC Tryz.prog S 91 [.ptr p 0,.int .i64 d,.str f] h fun v h'=>v=.tup []∧Zs n0 K h' p (goneF l d f) s∧Gk K h h':=by
 refine RnC.enter' Tryz.f91 _ 51 [] (hS.nb _ _ _ (by simp)) bd91 Tryz.func91 rfl rfl rfl ?_
 obtain ⟨hv,sv,hob,_,hh,_⟩:=hz.vs
 obtain ⟨lhv,_,ohv⟩:=hh.ln
 have hl:=hz.ln.1
 simp (maxSteps:=9^9) -dsimp (disch:=repeat first|rw [nxn]|rw [nxp]|omega) only [go_sem,hob,ohv,lhv]
 refine loopK_of (RnL.rounds (Q:=fun ex u=>u.d=[]∧ex=.exit 0∧Zs n0 K u.h p (goneF l d f) s∧Gk K h u.h)
  (fun k u=>u.d=[]∧Gk K h u.h∧u.t.get 0=some (.ptr p 0)∧u.t.get 1=some (.int .i64 d)∧u.t.get 2=some (.str f)∧u.t.get 13=some (.int .i64 (l.length:Nat))∧∃i:Nat,Zs n0 K u.h p ((l.take i).map (fun x=>if x.dev=d∧x.folder=f then goneX x else x)++l.drop i) s∧u.t.get 14=some (.int .i64 (i:Nat))∧i≤l.length∧k=l.length-i) ?_ l.length ?_) ?_
 ·rintro k ⟨tt,g,dd⟩ ⟨e2,e1,t0,t1,t2,t13,i,hzi,t14,hi,rfl⟩
  dsimp only at e1 e2 hzi t0 t1 t2 t13 t14
  subst e2
  by_cases c4:(i:Int)<(l.length:Nat)
  ·have hil:i<l.length:=by omega
   obtain ⟨x,hx⟩:∃x,l[i]? = some x:=⟨_,List.getElem?_eq_getElem hil⟩
   have hms:=mid_set (f:=fun x=>if x.dev=d∧x.folder=f then goneX x else x) hx
   have hml:=mid_len l (fun x=>if x.dev=d∧x.folder=f then goneX x else x) i
   obtain ⟨id,c,css,sv',nv,nd,pv,a1,a2,a3,a4,a5,a6,a7,a8,a9,a10,a11,a12,a13,a14,a15,upd⟩:=hzi.at (mid_at hx)
   rw [hml] at a1
   have c0:=a6 0 (by decide)
   have c1:=a6 1 (by decide)
   have c10:=a6 10 (by decide)
   simp only [Nat.add_zero,List.getElem?_cons_zero,List.getElem?_cons_succ] at c0 c1 c10
   have opv:=a10.one.1
   have mpv:=oneM opv
   have lpv:=Sl.len (P:=Tryz.prog) (e:=36) (a10.sl elRa) Tryz.underlying44
   have es:=fun g=>eqSb g x.folder f
   have hle0:i*12+1≤css.flatten.length:=by omega
   have keep:¬(x.dev=d∧x.folder=f)→Zs n0 K g p ((l.take (i+1)).map (fun x=>if x.dev=d∧x.folder=f then goneX x else x)++l.drop (i+1)) s:=fun hh=>by
    rw [←hms,if_neg hh,set_same (mid_at hx)]
    exact hzi
   by_cases hd:x.dev=d
   ·by_cases hf:x.folder=f
    ·have hfd:decide (x.folder=f)=true:=decide_eq_true hf
     obtain ⟨css1,F1,F2,F3⟩:=two_put a4 a5 (k1:=3) (v1:=[.str [],.nilsl,.int .i64 0,.bool false,.int .i64 0,.int .i64 0,.nilsl]) (k2:=11) (v2:=[.int .i64 (x.past.length:Nat)]) (by decide) (Nat.le_refl _)
     have F1':List.take (i*12+3) css.flatten++[.str [],.nilsl,.int .i64 0,.bool false,.int .i64 0,.int .i64 0,.nilsl]++List.drop (i*12+3+7) css.flatten=css1.flatten:=F1
     have hl1:i*12+11+1≤css1.flatten.length:=by omega
     have hl0:i*12+3+7≤css.flatten.length:=by omega
     simp (maxSteps:=9^9) -dsimp (disch:=repeat first|rw [nxn]|rw [nxp]|omega) only [go_sem,c4,t0,t1,t2,t13,t14,a1,hil,a2,c0,c1,hle0,hd,es,hfd,bldRc0,c10,opv,mpv,lpv,hl0,F1',hl1]
     have F3':List.take (i*12+11) css1.flatten++[.int .i64 (x.past.length:Nat)]++List.drop (i*12+11+1) css1.flatten=_:=F3
     rw [F3']
     have hx':goneX x=(if x.dev=d∧x.folder=f then goneX x else x):=(if_pos ⟨hd,hf⟩).symm
     obtain ⟨u1,u2⟩:=upd ((g.put id (.cells css1.flatten true false)).put id (.cells (css.set i (putCells (putCells [.int .i64 x.dev,.str x.folder,.str x.path,.str x.now.path,nv,.int .i64 x.now.own,.bool x.now.gone,.int .i64 x.now.size,.int .i64 x.now.len,nd,pv,.int .i64 (x.start:Nat)] 3 [.str [],.nilsl,.int .i64 0,.bool false,.int .i64 0,.int .i64 0,.nilsl]) 11 [.int .i64 (x.past.length:Nat)])).flatten true false)) _ (goneX x) rfl (AH.get_put_eq rfl) (fun j hj=>(AH.get_put_ne hj).trans (AH.get_put_ne hj)) (fun gk hpv=>⟨.nilsl,.nilsl,pv,rfl,⟨.inl ⟨rfl,rfl⟩,Nat.zero_le _⟩,⟨.inl ⟨rfl,rfl⟩,Nat.zero_le _⟩,Nat.zero_le _,hpv,a11,a12⟩) rfl
     rw [hx',hms] at u1
     exact ⟨l.length-(i+1),by omega,trivial,e1.trans u2,trivial,trivial,trivial,trivial,i+1,u1,rfl,by omega,rfl⟩
    ·have hfd:decide (x.folder=f)=false:=decide_eq_false hf
     have hne:¬(x.dev=d∧x.folder=f):=fun hh=>hf hh.2
     simp (maxSteps:=9^9) -dsimp (disch:=repeat first|rw [nxn]|rw [nxp]|omega) only [go_sem,c4,t0,t1,t2,t13,t14,a1,hil,a2,c0,c1,hle0,hd,es,hfd]
     exact ⟨l.length-(i+1),by omega,trivial,e1,trivial,trivial,trivial,trivial,i+1,keep hne,rfl,by omega,rfl⟩
   ·simp (maxSteps:=9^9) -dsimp (disch:=repeat first|rw [nxn]|rw [nxp]|omega) only [go_sem,c4,t0,t1,t2,t13,t14,a1,hil,a2,c0,hle0,hd]
    exact ⟨l.length-(i+1),by omega,trivial,e1,trivial,trivial,trivial,trivial,i+1,keep (fun hh=>hd hh.1),rfl,by omega,rfl⟩
  ·obtain rfl:i=l.length:=by omega
   rw [List.take_length,List.drop_length,List.append_nil] at hzi
   simp (maxSteps:=9^9) -dsimp (disch:=repeat first|rw [nxn]|rw [nxp]|omega) only [go_sem,c4,t13,t14]
   exact ⟨trivial,trivial,hzi,e1⟩
 ·simp (maxSteps:=9^9) -dsimp (disch:=repeat first|rw [nxn]|rw [nxp]|omega) only [go_sem]
  exact ⟨trivial,Gk.refl _ _,trivial,trivial,trivial,trivial,0,by simpa using hz,rfl,Nat.zero_le _,rfl⟩
 ·rintro ex ⟨tt,g,dd⟩ ⟨rfl,rfl,hzf,e1⟩
  dsimp only at e1 hzf
  simp (maxSteps:=9^9) -dsimp (disch:=repeat first|rw [nxn]|rw [nxp]|omega) only [go_sem]
  exact ⟨by first | trivial | rfl,hzf,e1⟩
theorem forgetC (hS:Nf S) {n0:Nat} {K:Nat→Nat} {h:AH} {p:Nat} {l:List Hd} {s:List Mt} (f:List Nat) (hz:Zs n0 K h p l s) (hpos:∀x∈l,x.now.path≠[]→0<x.past.length):RnC Tryz.prog S 92 [.ptr p 0,.str f] h fun v h'=>v=.tup []∧Zs n0 K h' p (forF l f) s∧Gk K h h':=by
 refine RnC.enter' Tryz.f92 _ 50 [] (hS.nb _ _ _ (by simp)) bd92 Tryz.func92 rfl rfl rfl ?_
 obtain ⟨hv,sv,hob,_,hh,_⟩:=hz.vs
 obtain ⟨lhv,_,ohv⟩:=hh.ln
 have hl:=hz.ln.1
 simp (maxSteps:=9^9) -dsimp (disch:=repeat first|rw [nxn]|rw [nxp]|omega) only [go_sem,hob,ohv,lhv]
 refine loopK_of (RnL.rounds (Q:=fun ex u=>u.d=[]∧ex=.exit 0∧Zs n0 K u.h p (forF l f) s∧Gk K h u.h)
  (fun k u=>u.d=[]∧Gk K h u.h∧u.t.get 0=some (.ptr p 0)∧u.t.get 1=some (.str f)∧u.t.get 11=some (.int .i64 (l.length:Nat))∧∃i:Nat,Zs n0 K u.h p ((l.take i).map (fun x=>if x.folder=f then forX x else x)++l.drop i) s∧u.t.get 12=some (.int .i64 (i:Nat))∧i≤l.length∧k=l.length-i) ?_ l.length ?_) ?_
 ·rintro k ⟨tt,g,dd⟩ ⟨e2,e1,t0,t1,t11,i,hzi,t12,hi,rfl⟩
  dsimp only at e1 e2 hzi t0 t1 t11 t12
  subst e2
  by_cases c4:(i:Int)<(l.length:Nat)
  ·have hil:i<l.length:=by omega
   obtain ⟨x,hx⟩:∃x,l[i]? = some x:=⟨_,List.getElem?_eq_getElem hil⟩
   have hms:=mid_set (f:=fun x=>if x.folder=f then forX x else x) hx
   have hml:=mid_len l (fun x=>if x.folder=f then forX x else x) i
   obtain ⟨id,c,css,sv',nv,nd,pv,a1,a2,a3,a4,a5,a6,a7,a8,a9,a10,a11,a12,a13,a14,a15,upd⟩:=hzi.at (mid_at hx)
   rw [hml] at a1
   have c1:=a6 1 (by decide)
   have c3:=a6 3 (by decide)
   have c10:=a6 10 (by decide)
   simp only [List.getElem?_cons_zero,List.getElem?_cons_succ] at c1 c3 c10
   have opv:=a10.one.1
   have mpv:=oneM opv
   have lpv:=Sl.len (P:=Tryz.prog) (e:=36) (a10.sl elRa) Tryz.underlying44
   have es:=fun g=>neSb g x.folder f
   have keep:¬x.folder=f→Zs n0 K g p ((l.take (i+1)).map (fun x=>if x.folder=f then forX x else x)++l.drop (i+1)) s:=fun hh=>by
    rw [←hms,if_neg hh,set_same (mid_at hx)]
    exact hzi
   by_cases hf:x.folder=f
   ·have hfd:decide (x.folder=f)=true:=decide_eq_true hf
    have c3n:∀vs,(putCells css.flatten (i*12+11) [vs])[i*12+3]? = some (.str x.now.path):=fun vs=>by
     rw [putCells_get _ _ _ (by simp only [List.length_singleton];omega),if_neg (by omega)]
     exact c3
    have ep:=fun g=>neSb g x.now.path []
    have hl0:i*12+11+1≤css.flatten.length:=by omega
    by_cases hp:x.now.path=[]
    ·have hpd:decide (x.now.path=[])=true:=decide_eq_true hp
     have F1:=flz_put (k:=11) (vs:=[.int .i64 (x.past.length:Nat)]) a4 a5 (Nat.le_refl _)
     have hlF:(putCells css.flatten (i*12+11) [.int .i64 (x.past.length:Nat)]).length=css.flatten.length:=putCells_length _ _ _ (by simp only [List.length_singleton];omega)
     have c3':=c3n (.int .i64 (x.past.length:Nat))
     rw [F1] at c3' hlF
     generalize hC1:css.set i (putCells [.int .i64 x.dev,.str x.folder,.str x.path,.str x.now.path,nv,.int .i64 x.now.own,.bool x.now.gone,.int .i64 x.now.size,.int .i64 x.now.len,nd,pv,.int .i64 (x.start:Nat)] 11 [.int .i64 (x.past.length:Nat)])=css1 at *
     have F1':List.take (i*12+11) css.flatten++[.int .i64 (x.past.length:Nat)]++List.drop (i*12+11+1) css.flatten=css1.flatten:=F1
     have hl1:i*12+3+1≤css1.flatten.length:=by omega
     have hl2:i*12+4≤css1.flatten.length:=by omega
     simp (maxSteps:=9^9) -dsimp (disch:=repeat first|rw [nxn]|rw [nxp]|omega) only [go_sem,c4,t0,t1,t11,t12,a1,hil,a2,c1,es,hfd,c10,opv,mpv,lpv,hl0,F1',c3',hl1,hl2,bE,ep,hpd]
     obtain ⟨u1,u2⟩:=upd (g.put id (.cells css1.flatten true false)) (putCells [.int .i64 x.dev,.str x.folder,.str x.path,.str x.now.path,nv,.int .i64 x.now.own,.bool x.now.gone,.int .i64 x.now.size,.int .i64 x.now.len,nd,pv,.int .i64 (x.start:Nat)] 11 [.int .i64 (x.past.length:Nat)]) (forX x) rfl (by rw [hC1];exact AH.get_put_eq rfl) (fun j hj=>AH.get_put_ne hj) (fun gk hpv=>by
      unfold forX
      rw [if_pos hp]
      exact ⟨nv,nd,pv,rfl,a7.gk gk,a8.gk gk,a9,hpv,a11,a12⟩) rfl
     rw [show forX x=(if x.folder=f then forX x else x) from (if_pos hf).symm,hms] at u1
     exact ⟨l.length-(i+1),by omega,trivial,e1.trans u2,trivial,trivial,trivial,i+1,u1,rfl,by omega,rfl⟩
    ·have hpd:decide (x.now.path=[])=false:=decide_eq_false hp
     have hpos':0<x.past.length:=hpos x (List.mem_of_getElem? hx) hp
     obtain ⟨css1,F1,F2,F3⟩:=two_put a4 a5 (k1:=11) (v1:=[.int .i64 (x.past.length:Nat)]) (k2:=11) (v2:=[.int .i64 ((x.past.length-1:Nat):Int)]) (Nat.le_refl _) (Nat.le_refl _)
     have c3':=c3n (.int .i64 (x.past.length:Nat))
     have c11':(putCells css.flatten (i*12+11) [.int .i64 (x.past.length:Nat)])[i*12+11]? = some (.int .i64 (x.past.length:Nat)):=by
      rw [putCells_get _ _ _ (by simp only [List.length_singleton];omega),if_pos (by simp),Nat.sub_self]
      rfl
     rw [F1] at c3' c11'
     have F1':List.take (i*12+11) css.flatten++[.int .i64 (x.past.length:Nat)]++List.drop (i*12+11+1) css.flatten=css1.flatten:=F1
     have F3':List.take (i*12+11) css1.flatten++[.int .i64 ((x.past.length-1:Nat):Int)]++List.drop (i*12+11+1) css1.flatten=_:=F3
     have hsub:(x.past.length:Int)-1=((x.past.length-1:Nat):Int):=by omega
     have hl1:i*12+3+1≤css1.flatten.length:=by omega
     have hl2:i*12+4≤css1.flatten.length:=by omega
     have hl3:i*12+11+1≤css1.flatten.length:=by omega
     simp (maxSteps:=9^9) -dsimp (disch:=repeat first|rw [nxn]|rw [nxp]|omega) only [go_sem,c4,t0,t1,t11,t12,a1,hil,a2,c1,es,hfd,c10,opv,mpv,lpv,hl0,F1',c3',c11',hl1,hl2,hl3,bE,ep,hpd,hsub,F3']
     obtain ⟨u1,u2⟩:=upd ((g.put id (.cells css1.flatten true false)).put id (.cells (css.set i (putCells (putCells [.int .i64 x.dev,.str x.folder,.str x.path,.str x.now.path,nv,.int .i64 x.now.own,.bool x.now.gone,.int .i64 x.now.size,.int .i64 x.now.len,nd,pv,.int .i64 (x.start:Nat)] 11 [.int .i64 (x.past.length:Nat)]) 11 [.int .i64 ((x.past.length-1:Nat):Int)])).flatten true false)) _ (forX x) rfl (AH.get_put_eq rfl) (fun j hj=>(AH.get_put_ne hj).trans (AH.get_put_ne hj)) (fun gk hpv=>by
      unfold forX
      rw [if_neg hp]
      exact ⟨nv,nd,pv,rfl,a7.gk gk,a8.gk gk,a9,hpv,a11,a12⟩) rfl
     rw [show forX x=(if x.folder=f then forX x else x) from (if_pos hf).symm,hms] at u1
     exact ⟨l.length-(i+1),by omega,trivial,e1.trans u2,trivial,trivial,trivial,i+1,u1,rfl,by omega,rfl⟩
   ·have hfd:decide (x.folder=f)=false:=decide_eq_false hf
    simp (maxSteps:=9^9) -dsimp (disch:=repeat first|rw [nxn]|rw [nxp]|omega) only [go_sem,c4,t0,t1,t11,t12,a1,hil,a2,c1,es,hfd]
    exact ⟨l.length-(i+1),by omega,trivial,e1,trivial,trivial,trivial,i+1,keep hf,rfl,by omega,rfl⟩
  ·obtain rfl:i=l.length:=by omega
   rw [List.take_length,List.drop_length,List.append_nil] at hzi
   simp (maxSteps:=9^9) -dsimp (disch:=repeat first|rw [nxn]|rw [nxp]|omega) only [go_sem,c4,t11,t12]
   exact ⟨trivial,trivial,hzi,e1⟩
 ·simp (maxSteps:=9^9) -dsimp (disch:=repeat first|rw [nxn]|rw [nxp]|omega) only [go_sem]
  exact ⟨trivial,Gk.refl _ _,trivial,trivial,trivial,0,by simpa using hz,rfl,Nat.zero_le _,rfl⟩
 ·rintro ex ⟨tt,g,dd⟩ ⟨rfl,rfl,hzf,e1⟩
  dsimp only at e1 hzf
  simp (maxSteps:=9^9) -dsimp (disch:=repeat first|rw [nxn]|rw [nxp]|omega) only [go_sem]
  exact ⟨by first | trivial | rfl,hzf,e1⟩
end
structure InvG (Inv:List Hd→Prop):Prop where
 gone:∀l d f,Inv l→Inv (goneF l d f)
 forg:∀l f,Inv l→Inv (forF l f)
 pos:∀l,Inv l→∀x∈l,x.now.path≠[]→0<x.past.length
def shF (s:List Mt) (d:Int) (m:Mt):List Mt:=if (findM s d).2 then s.set (findM s d).1 m else s.take (findM s d).1++m::s.drop (findM s d).1
theorem findM_lt {s:List Mt} {d:Int} (h:(findM s d).2=true):(findM s d).1<s.length:=by
 simp only [findM,Bool.and_eq_true,decide_eq_true_eq] at h
 exact h.1
section
variable {S : Sums}
theorem rowC (hS:Nf S) {K:Nat→Nat} {h:AH} {cs:List AV} {m:Mt} (f:List Nat) (hm:Ma K h cs m):RnC Tryz.prog S 90 [.agg cs,.str f] h fun r h'=>(∃w b own,r=.tup [w,.bool b]∧Iv K h' w own)∧Fr h h':=by
 obtain ⟨w,rfl,hw⟩:=hm
 refine RnC.enter' Tryz.f90 _ 22 [.tmp 4,.tmp 5] (hS.nb _ _ _ (by simp)) bd90 Tryz.func90 rfl rfl rfl ?_
 obtain ⟨lw,sw,ow⟩:=hw.ln
 have mw:=oneM ow
 have hl:=hw.2
 simp (maxSteps:=9^9) -dsimp (disch:=repeat first|rw [nxn]|rw [nxp]|omega) only [go_sem,ow,mw,lw]
 have f1:Fr h (h.new (.cells [.int .i64 m.own,w] true false)):=Fr.new _ _
 generalize h.new (.cells [.int .i64 m.own,w] true false)=g1 at f1 ⊢
 have hw1:=hw.fr f1
 refine loopK_of (RnL.rounds (Q:=fun ex u=>u.d=[]∧Fr h u.h∧(ex=.exit 0∨ex=.ret∧∃w b own,u.t.get 4=some w∧u.t.get 5=some (.bool b)∧Iv K u.h w own))
  (fun k u=>u.d=[]∧Fr g1 u.h∧u.t.get 1=some (.str f)∧u.t.get 9=some w∧u.t.get 10=some (.int .i64 (m.rows.length:Nat))∧∃i:Nat,u.t.get 11=some (.int .i64 (i:Nat))∧i≤m.rows.length∧k=m.rows.length-i) ?_ m.rows.length ?_) ?_
 ·rintro k ⟨tt,g,d⟩ ⟨e2,e1,t1,t9,t10,i,t11,hi,rfl⟩
  dsimp only at e1 e2 t1 t9 t10 t11
  subst e2
  by_cases c4:(i:Int)<(m.rows.length:Nat)
  ·have hil:i<m.rows.length:=by omega
   obtain ⟨x,hx⟩:∃x,m.rows[i]? = some x:=⟨_,List.getElem?_eq_getElem hil⟩
   obtain ⟨id,off,c,cs,o,tx,wv,rfl,hgi,hidl,hle,hE,hwv⟩:=(hw1.fr e1).el hx
   obtain ⟨lwv,swv,owv⟩:=hwv.ln
   have mwv:=oneM owv
   have es:=fun g=>eqSb g x.folder f
   have ff:Fr g ((g.new (.cells [.str [],.nilsl] true false)).put g.nx (.cells [.str x.folder,wv] true false)):=(Fr.new _ _).put _ (Nat.le_refl _)
   by_cases hf:x.folder=f
   ·have hfd:decide (x.folder=f)=true:=decide_eq_true hf
    simp (maxSteps:=9^9) -dsimp (disch:=repeat first|rw [nxn]|rw [nxp]|omega) only [go_sem,c4,t1,t9,t10,t11,hil,hgi,hle,hE,owv,mwv,es,hfd]
    exact ⟨trivial,f1.trans (e1.trans ff),.inr ⟨trivial,_,_,x.own,rfl,rfl,hwv.fr ff⟩⟩
   ·have hfd:decide (x.folder=f)=false:=decide_eq_false hf
    simp (maxSteps:=9^9) -dsimp (disch:=repeat first|rw [nxn]|rw [nxp]|omega) only [go_sem,c4,t1,t9,t10,t11,hil,hgi,hle,hE,owv,mwv,es,hfd]
    exact ⟨m.rows.length-(i+1),by omega,trivial,e1.trans ff,trivial,trivial,trivial,i+1,rfl,by omega,rfl⟩
  ·simp (maxSteps:=9^9) -dsimp (disch:=repeat first|rw [nxn]|rw [nxp]|omega) only [go_sem,c4,t1,t9,t10,t11]
   exact ⟨trivial,f1.trans e1,.inl trivial⟩
 ·simp (maxSteps:=9^9) -dsimp (disch:=repeat first|rw [nxn]|rw [nxp]|omega) only [go_sem]
  exact ⟨trivial,Fr.refl _,trivial,trivial,trivial,0,rfl,Nat.zero_le _,rfl⟩
 ·rintro ex ⟨tt,g,d⟩ ⟨rfl,e1,rfl | ⟨rfl,w,b,own,t4,t5,hiv⟩⟩
  ·dsimp only at e1
   simp (maxSteps:=9^9) -dsimp (disch:=repeat first|rw [nxn]|rw [nxp]|omega) only [go_sem]
   exact ⟨⟨_,_,[],rfl,⟨.inl ⟨rfl,rfl⟩,Nat.zero_le _⟩⟩,e1⟩
  ·dsimp only at e1 t4 t5 hiv
   simp (maxSteps:=9^9) -dsimp (disch:=repeat first|rw [nxn]|rw [nxp]|omega) only [go_sem,t4,t5]
   exact ⟨⟨_,_,own,rfl,hiv⟩,e1⟩
theorem shareC (hS:Nf S) {n0:Nat} {K:Nat→Nat} {h:AH} {p:Nat} {l:List Hd} {s:List Mt} {cm:List AV} {m:Mt} (d:Int) (hz:Zs n0 K h p l s) (hm:Ma K h cm m) {Inv:List Hd→Prop} (hI:InvG Inv) (hi:Inv l) (hsl:s.length<1000000):RnC Tryz.prog S 62 [.ptr p 0,.int .i64 d,.agg cm] h fun v h'=>v=.tup []∧∃K' l',Zs n0 K' h' p l' (shF s d m)∧Zg K h K' h'∧Inv l':=by
 have hm0:=hm
 obtain ⟨w,rfl,hw⟩:=hm
 obtain ⟨lw,sw,ow⟩:=hw.ln
 have mw:=oneM ow
 refine RnC.enter' Tryz.f62 _ 84 [] (hS.nb _ _ _ (by simp)) bd62 Tryz.func62 rfl rfl rfl ?_
 simp -dsimp only [go_sem,ow,mw]
 have f1:Fr h (h.new (.cells [.int .i64 m.own,w] true false)):=Fr.new _ _
 have q1:(h.new (.cells [.int .i64 m.own,w] true false)).get h.nx=some (.cells [.int .i64 m.own,w] true false):=AH.get_new_eq rfl
 have n1:(h.new (.cells [.int .i64 m.own,w] true false)).nx=h.nx+1:=rfl
 generalize h.new (.cells [.int .i64 m.own,w] true false)=g1 at f1 q1 n1 ⊢
 have hz1:=hz.fr f1
 refine callK_of (sharesC hS.toMz d hz1.vs) ?_
 rintro v g2 ⟨rfl,f2⟩
 have n2:=f2.nx
 have f12:=f1.trans f2
 have u1:=(f2.get _ (by omega)).trans q1
 have hile:=findM_le s d
 have hph:=hz.pn.2.1
 have hz2:=hz.fr f12
 have f23:Fr g2 (g2.new (.cells [.int .i64 0,.nilsl] true false)):=Fr.new _ _
 have w8:(g2.new (.cells [.int .i64 0,.nilsl] true false)).get g2.nx=some (.cells [.int .i64 0,.nilsl] true false):=AH.get_new_eq rfl
 have n3:(g2.new (.cells [.int .i64 0,.nilsl] true false)).nx=g2.nx+1:=rfl
 cases his:(findM s d).2
 case true =>
  have hlt:=findM_lt his
  have hpn:=hz2.pn
  obtain ⟨hv,sv,hob,hoy,hoz,hsv⟩:=hz2.ob
  obtain ⟨ohv,shv⟩:=hoy.one
  have mhv:=oneM ohv
  obtain ⟨osv,ssv⟩:=hoz.one
  obtain ⟨x,hx⟩:∃x,s[(findM s d).1]? = some x:=⟨_,List.getElem?_eq_getElem hlt⟩
  obtain ⟨idS,cS,css,ce,A,B,rfl,z2,z3,z4,z5,z6,zM,a3,a4,hcS,hid0,hid1,hid2⟩:=hoz.at elMa hx
  obtain ⟨wr,rfl,hwr⟩:=zM
  have hid2':=hsv idS rfl
  obtain ⟨lwr,swr,owr⟩:=hwr.ln
  have hRl:=hwr.2
  have mwr:=oneM owr
  have ht2:(css.flatten.drop ((findM s d).1*2)).take 2=[.int .i64 x.own,wr]:=by rw [z4,←z5,List.append_assoc,List.drop_left];rfl
  simp -dsimp (disch:=repeat first|rw [nxn]|rw [nxp]|omega) only [go_sem,his,hob,hlt,z2,z6,ht2,owr,mwr]
  generalize hfi:(findM s d).1=i at *
  generalize hg4:(g2.new (.cells [.int .i64 0,.nilsl] true false)).put g2.nx (.cells [.int .i64 x.own,wr] true false)=g4
  have n4:g4.nx=g2.nx+1:=by rw [←hg4];rfl
  have f24:Fr g2 g4:=by rw [←hg4];exact (Fr.new _ _).put _ (Nat.le_refl _)
  have w9:g4.get g2.nx=some (.cells [.int .i64 x.own,wr] true false):=by rw [←hg4];exact AH.get_put_eq rfl
  clear hg4
  have r1:=(f24.get _ (by omega)).trans hob
  have r5:=(f24.get _ (by omega)).trans u1
  have f14:=f12.trans f24
  refine syDraw.keepN 9 (fun j=>j=p∨j=h.nx) (by kernel_rfl) (by kernel_rfl) rfl ?_
  have fA:Fr g4 { tr:=g4.tr,nx:=g4.nx+10 }:=(Fr.refl g4).more _ (by omega)
  simp -dsimp only [go_sem,r1,r5,ow,mw,sw,ohv,mhv,shv,ssv,true_and,true_or,or_true,implies_true,svi,svb,svs,svp,Ma.sv hm0]
  refine callK_of (ownC hS.toNb ((hm0.fr f14).fr fA) fun j hj=>hz.top j (by have:g4.nx+10≤j:=hj;omega)) ?_
  rintro v g5 ⟨⟨cb,rfl,hcb⟩,f5⟩
  have n5:g4.nx+10≤g5.nx:=f5.nx
  have hcb0:=hcb
  obtain ⟨bw,rfl,hbw⟩:=hcb
  have obw:=hbw.ln.2.2
  have mbw:=oneM obw
  refine ⟨fun j hj=>f5.get j (by show j<g4.nx+10;rcases hj with rfl | rfl <;> omega),?_⟩
  have f25:=(f24.trans fA).trans f5
  have z25:=(f25.get _ hid1).trans z2
  have r55:=(f25.get _ (by omega)).trans u1
  have w95:=((fA.trans f5).get _ (by omega)).trans w9
  have a45:∀(i:Nat) cs x,css[i]? = some cs→s[i]? = some x→Ma K g5 cs x:=fun i cs x h1 h2=>(a4 i cs x h1 h2).fr f25
  have hgk:Gk K g5 (g5.put idS (.cells (putCells css.flatten (i*2+0) [.int .i64 m.own,bw]) true false)):=(Gk.refl _ _).put (.inl hid2) _
  have hoz6:=(hoz.fr elMa f25).put elMa (k:=0) (vs:=[.int .i64 m.own,bw]) (x':=m) rfl z25 a3 a45 hx z3 (Nat.le_refl _) (hcb0.gk hgk)
  have hls:=hz.ln.2
  have hpid:p≠idS:=fun hh=>by rw [←hh] at hid2';omega
  have hz6:Zs n0 K (g5.put idS (.cells (putCells css.flatten (i*2+0) [.int .i64 m.own,bw]) true false)) p l (s.set i m):=by
   refine ⟨fun j hj=>hz.top j (by have:g5.nx≤j:=hj;omega),⟨hv,_,(AH.get_put_ne hpid).trans ((f25.get _ (by omega)).trans hob),(hoy.fr eyH f25).kc eyH ⟨Nat.le_refl _,fun j hj hk=>AH.get_put_ne (fun hh=>by subst hh;omega)⟩,hoz6,hsv⟩,⟨hpn.1,by show p<g5.nx;omega,hpn.2.2⟩,by rw [List.length_set];exact hz.ln⟩
  have zg6:Zg K h K (g5.put idS (.cells (putCells css.flatten (i*2+0) [.int .i64 m.own,bw]) true false)):=⟨(((f12.trans f25).gk K)).trans hgk,fun _ _=>rfl⟩
  have hwr6:=(hwr.fr f25).gk hgk
  have hm6:=(hm0.fr (f12.trans f25)).gk hgk
  have q56:(g5.put idS (.cells (putCells css.flatten (i*2+0) [.int .i64 m.own,bw]) true false)).get h.nx=_:=(AH.get_put_ne (fun hh=>by rw [←hh,hz.top _ (Nat.le_refl _)] at hid2';omega)).trans r55
  have hn6:h.nx<(g5.put idS (.cells (putCells css.flatten (i*2+0) [.int .i64 m.own,bw]) true false)).nx:=by show h.nx<g5.nx;omega
  have hshT:shF s d m=s.set i m:=by unfold shF;rw [his];simp only [if_true];rw [hfi]
  have kbT:=hz.top h.nx (Nat.le_refl _)
  simp -dsimp (disch:=repeat first|rw [nxn]|rw [nxp]|omega) only [go_sem,hlt,z25,z6,obw,mbw,w95,owr,mwr,lwr,true_and,true_or,or_true,implies_true,svi,svb,svs,svp]
  refine loopK_of (RnL.rounds (Q:=fun ex u=>u.d=[]∧ex=.exit 0∧Gk K (g5.put idS (.cells (putCells css.flatten (i*2+0) [.int .i64 m.own,bw]) true false)) u.h∧∃l',Zs n0 K u.h p l' (s.set i m)∧Inv l')
   (fun k u=>u.d=[]∧Gk K (g5.put idS (.cells (putCells css.flatten (i*2+0) [.int .i64 m.own,bw]) true false)) u.h∧u.t.get 0=some (.ptr p 0)∧u.t.get 1=some (.int .i64 d)∧u.t.get 5=some (.ptr h.nx 0)∧u.t.get 52=some wr∧u.t.get 53=some (.int .i64 (x.rows.length:Nat))∧∃(q:Nat) (l':List Hd),Zs n0 K u.h p l' (s.set i m)∧Inv l'∧u.t.get 54=some (.int .i64 (q:Nat))∧q≤x.rows.length∧k=x.rows.length-q) ?_ x.rows.length ?_) ?_
  ·rintro k ⟨tt,g,dd⟩ ⟨e2,e1,t0,t1,t5,t52,t53,i',l',hzi,hil',t54,hi',rfl⟩
   dsimp only at e1 e2 hzi t0 t1 t5 t52 t53 t54
   subst e2
   have hnT:=e1.nx
   by_cases c4:(i':Int)<(x.rows.length:Nat)
   ·have hil:i'<x.rows.length:=by omega
    obtain ⟨y,hy⟩:∃y,x.rows[i']? = some y:=⟨_,List.getElem?_eq_getElem hil⟩
    obtain ⟨idw,offw,cw,csw,ow',txw,wv,hvv,hgi,hidl,hle,hE,hwv⟩:=(hwr6.gk e1).el hy
    subst hvv
    obtain ⟨lwv,swv,owv⟩:=hwv.ln
    have mwv:=oneM owv
    have v5:=(e1.get _ hn6 kbT).trans q56
    simp -dsimp (disch:=repeat first|rw [nxn]|rw [nxp]|omega) only [go_sem,c4,t0,t1,t5,t52,t53,t54,hil,hgi,hle,hE,owv,mwv,v5,ow,mw]
    have ff:Fr g ((g.new (.cells [.str [],.nilsl] true false)).put g.nx (.cells [.str y.folder,wv] true false)):=(Fr.new _ _).put _ (Nat.le_refl _)
    have w4:((g.new (.cells [.str [],.nilsl] true false)).put g.nx (.cells [.str y.folder,wv] true false)).get g.nx=some (.cells [.str y.folder,wv] true false):=AH.get_put_eq rfl
    have n4':((g.new (.cells [.str [],.nilsl] true false)).put g.nx (.cells [.str y.folder,wv] true false)).nx=g.nx+1:=rfl
    generalize (g.new (.cells [.str [],.nilsl] true false)).put g.nx (.cells [.str y.folder,wv] true false)=g7 at ff w4 n4' ⊢
    refine callK_of (rowC hS y.folder ((hm6.gk e1).fr ff)) ?_
    rintro r g8 ⟨⟨w3,b,own3,rfl,hw3⟩,f8⟩
    have n8:=f8.nx
    have f98:=ff.trans f8
    have v8:=(f8.get _ (by omega)).trans w4
    have hz8:=hzi.fr f98
    have gk8:=e1.trans (f98.gk K)
    cases b
    ·simp -dsimp only [go_sem,t0,t1,v8,owv,mwv]
     refine callK_of (goneC hS d y.folder hz8) ?_
     rintro v g9 ⟨rfl,hz9,gk9⟩
     simp -dsimp (disch:=repeat first|rw [nxn]|rw [nxp]|omega) only [go_sem,t0,t1,t5,t52,t53,t54]
     exact ⟨x.rows.length-(i'+1),by omega,trivial,gk8.trans gk9,trivial,trivial,trivial,trivial,trivial,i'+1,goneF l' d y.folder,hz9,hI.gone _ _ _ hil',rfl,by omega,rfl⟩
    ·have o3:=hw3.ln.2.2
     simp -dsimp only [go_sem,t0,t1,v8,owv,mwv,o3]
     refine callK_of (eqInC hS.toMp hw3 (hwv.fr f98)) ?_
     rintro v g9 ⟨rfl,f9⟩
     have v9:=(f9.get _ (by omega)).trans v8
     have hz9:=hz8.fr f9
     have gk9:=gk8.trans (f9.gk K)
     cases hb:decide (own3=y.own)
     ·simp -dsimp only [go_sem,hb,t0,t1,v9,owv,mwv]
      refine callK_of (forgetC hS y.folder hz9 (hI.pos _ hil')) ?_
      rintro v g10 ⟨rfl,hz10,gk10⟩
      simp -dsimp (disch:=repeat first|rw [nxn]|rw [nxp]|omega) only [go_sem,t0,t1,t5,t52,t53,t54]
      exact ⟨x.rows.length-(i'+1),by omega,trivial,gk9.trans gk10,trivial,trivial,trivial,trivial,trivial,i'+1,forF l' y.folder,hz10,hI.forg _ _ hil',rfl,by omega,rfl⟩
     ·simp -dsimp (disch:=repeat first|rw [nxn]|rw [nxp]|omega) only [go_sem,hb,t0,t1,t5,t52,t53,t54]
      exact ⟨x.rows.length-(i'+1),by omega,trivial,gk9,trivial,trivial,trivial,trivial,trivial,i'+1,l',hz9,hil',rfl,by omega,rfl⟩
   ·simp -dsimp only [go_sem,c4,t53,t54]
    exact ⟨trivial,trivial,e1,l',hzi,hil'⟩
  ·simp -dsimp only [go_sem]
   exact ⟨trivial,Gk.refl _ _,trivial,trivial,trivial,trivial,trivial,0,l,hz6,hi,rfl,Nat.zero_le _,rfl⟩
  ·rintro ex ⟨tt,g,dd⟩ ⟨rfl,rfl,e1,l',hzf,hif⟩
   dsimp only at e1 hzf
   simp -dsimp only [go_sem]
   exact ⟨by first | trivial | rfl,K,l',by rw [hshT];exact hzf,zg6.trans ⟨e1,fun _ _=>rfl⟩,hif⟩
 case false =>
  have hpn:=hz2.pn
  obtain ⟨hv,sv,hob,hoy,hoz,hsv⟩:=hz2.ob
  obtain ⟨ohv,shv⟩:=hoy.one
  have mhv:=oneM ohv
  obtain ⟨osv,ssv⟩:=hoz.one
  have msv:=oneM osv
  have hzi:=fun id o n c hv=>hoz.id elMa (id:=id) (o:=o) (n:=n) (c:=c) hv
  obtain ⟨css,a2,a3,a4,a5⟩:=id hoz
  have hrw:=oz_rows elMa a3 a4
  have hcl:css.flatten.length=s.length*2:=by rw [flz fun cs hcs=>(hrw cs hcs).1,a3]
  simp -dsimp only [go_sem,his]
  generalize hfi:(findM s d).1=i at *
  generalize hg4:g2.new (.cells [.int .i64 0,.nilsl] true false)=g4 at f23 w8 n3 ⊢
  have r1:=(f23.get _ (by omega)).trans hob
  have r5:=(f23.get _ (by omega)).trans u1
  have f14:=f12.trans f23
  obtain ⟨KB,kb0,kb1,kb2⟩:∃KB:Nat→Nat,(∀j,j<g4.nx→KB j=K j)∧(∀j,g4.nx≤j→j<g4.nx+15→KB j=9)∧∀j,g4.nx+15≤j→KB j=0:=⟨fun j=>if g4.nx≤j∧j<g4.nx+15 then 9 else K j,fun j hj=>if_neg (by omega),fun j h1 h2=>if_pos ⟨h1,h2⟩,fun j hj=>(if_neg (by omega)).trans (hz.top j (by omega))⟩
  have hmB:Ma KB g4 [.int .i64 m.own,w] m:=(hm0.col fun j hj hk=>(kb0 j (by omega)).trans hk).fr f14
  refine syDraw.keepN 14 (fun j=>j=p∨j=h.nx) (by kernel_rfl) (by kernel_rfl) rfl ?_
  have fA:Fr g4 { tr:=g4.tr,nx:=g4.nx+15 }:=(Fr.refl g4).more _ (by omega)
  simp -dsimp only [go_sem,r1,r5,ow,mw,sw,ohv,mhv,shv,osv,msv,ssv,true_and,true_or,or_true,implies_true,svi,svb,svs,svp,Ma.sv hm0]
  refine callK_of (ownC hS.toNb (hmB.fr fA) fun j hj=>kb2 j hj) ?_
  rintro v g5 ⟨⟨cb,rfl,hcb⟩,f5⟩
  have n5:g4.nx+15≤g5.nx:=f5.nx
  have hcb0:=hcb
  obtain ⟨bw,rfl,hbw⟩:=hcb
  have obw:=hbw.ln.2.2
  have mbw:=oneM obw
  refine ⟨fun j hj=>f5.get j (by show j<g4.nx+15;rcases hj with rfl | rfl <;> omega),?_⟩
  have f45:=fA.trans f5
  have fB:Fr g4 (g5.put (g4.nx+9) (.cells [.int .i64 m.own,bw] true false)):=f45.put _ (by omega)
  have gkB:Gk KB g5 (g5.put (g4.nx+9) (.cells [.int .i64 m.own,bw] true false)):=(Gk.refl _ _).put (.inl (by rw [kb1 _ (by omega) (by omega)];decide)) _
  have hgB:(g5.put (g4.nx+9) (.cells [.int .i64 m.own,bw] true false)).get (g4.nx+9)=_:=AH.get_put_eq rfl
  have a2B:=(a2.fr f23).fr fB
  simp -dsimp only [go_sem,obw,mbw,cells1 obw,ssv,true_and,true_or,or_true,implies_true,svi,svb,svs,svp]
  refine callK_of (insMtC hS.toNi a2B hcl hile (by omega) hgB rfl (fun id o n c hv=>by have:=(hzi id o n c hv).2.1;omega) (all_flat fun cs hcs=>(hrw cs hcs).2) (by simp [obw];rfl) (by show n0≤g5.nx;omega)) ?_
  rintro v g8 ⟨id,rfl,b2,b3,b4,b5⟩
  have b3':g5.nx≤id:=b3
  have b4':g5.nx≤g8.nx:=b4
  have hid8:id<g8.nx:=by
   rcases b2 with ⟨hh,_⟩ | ⟨id',n',c',tx',hh,_,h3,_⟩
   ·cases hh
   ·cases hh;exact h3
  have hout:∀j,j<g4.nx→K j≠2→g8.get j=g4.get j:=fun j hj hk=>(b5 j (by show j<g5.nx;omega) fun id' o n c hv hh=>by rw [hh] at hk;exact hk (hsv _ (by rw [hv];rfl))).trans (fB.get j hj)
  have k0:K h.nx=0:=hz.top _ (Nat.le_refl _)
  refine ⟨fun j hj=>(b5 j (by show j<g5.nx;rcases hj with rfl | rfl <;> omega) fun id' o n c hv hh=>by have:=hsv id' (by rw [hv];rfl);rcases hj with rfl | rfl <;> (rw [←hh] at this;omega)).trans (AH.get_put_ne (by rcases hj with rfl | rfl <;> omega)),?_⟩
  have KD0:∀j,j<g5.nx→(fun j=>if j=id then 2 else KB j) j=KB j:=fun j hj=>if_neg (by omega)
  have KD1:(fun j=>if j=id then 2 else KB j) id=2:=if_pos rfl
  have KD2:∀j,g8.nx≤j→(fun j=>if j=id then 2 else KB j) j=0:=fun j hj=>(if_neg (by omega)).trans (kb2 j (by omega))
  generalize (fun j=>if j=id then 2 else KB j)=KD at KD0 KD1 KD2
  have KDK:∀j,j<g4.nx→KD j=K j:=fun j hj=>(KD0 j (by omega)).trans (kb0 j hj)
  have a4B:∀(i:Nat) cs x,css[i]? = some cs→s[i]? = some x→Ma KB (g5.put (g4.nx+9) (.cells [.int .i64 m.own,bw] true false)) cs x:=fun i cs x h1 h2=>(((a4 i cs x h1 h2).col fun j hj hk=>(kb0 j (by omega)).trans hk).fr f23).fr fB
  have gk8:Gk KB (g5.put (g4.nx+9) (.cells [.int .i64 m.own,bw] true false)) g8:=⟨b4,fun j hj hk=>b5 j hj fun id' o n c hv hh=>by
   have h1:=(oz_blk hoz (a:=id') (by rw [hv];rfl)).2
   have h2:=hsv id' (by rw [hv];rfl)
   rw [hh,kb0 _ (by omega)] at hk
   omega⟩
  have hoz8:=Oz.ins elMa (x:=m) b2 a3 a4B hile (hcb0.gk gkB) gk8 (fun j hj=>KD0 j hj) fun id' o n c hv=>by cases hv;rw [KD1];decide
  have w1:=(hout p (by omega) (by omega)).trans r1
  have w5:=(hout h.nx (by omega) (by omega)).trans r5
  have w88:=(hout g2.nx (by omega) (by rw [hz.top _ (by omega)];decide)).trans w8
  have kp:=KDK p (by omega)
  have hz9:Zs n0 KD (g8.put p (.cells [hv,.sl id 0 (s.length+1) 2 none] true false)) p l (s.take i++m::s.drop i):=by
   refine ⟨fun j hj=>KD2 j hj,⟨hv,_,AH.get_put_eq rfl,((hoy.fr eyH f23).col eyH fun j hj _=>KDK j hj).kc eyH ⟨by show g4.nx≤g8.nx;omega,fun j hj hk=>(AH.get_put_ne (fun hh=>by rw [hh,kp] at hk;omega)).trans (hout j hj (by rw [←KDK j hj];omega))⟩,hoz8.keep elMa ((Gk.refl _ _).put (.inl (by rw [kp];omega)) _) fun id' o n c hv=>by cases hv;exact AH.get_put_ne (by omega),fun a ha=>by cases ha;exact KD1⟩,⟨hpn.1,by show p<g8.nx;omega,kp.trans hpn.2.2⟩,⟨hz.ln.1,by simp;omega⟩⟩
  have zg9:Zg K h KD (g8.put p (.cells [hv,.sl id 0 (s.length+1) 2 none] true false)):=⟨⟨by show h.nx≤g8.nx;omega,fun j hj hk=>(AH.get_put_ne (fun hh=>by rw [hh] at hk;omega)).trans ((hout j (by omega) (by omega)).trans (f14.get j hj))⟩,fun j hj=>KDK j (by omega)⟩
  have hshT:shF s d m=s.take i++m::s.drop i:=by unfold shF;rw [his,hfi];rfl
  simp -dsimp (disch:=repeat first|rw [nxn]|rw [nxp]|omega) only [go_sem,evLen,w1,w88,ohv,mhv,true_and,true_or,or_true,implies_true,svi,svb,svs,svp]
  refine loopK_of (RnL.rounds (Q:=fun ex u=>u.d=[]∧ex=.exit 0∧u.h=g8.put p (.cells [hv,.sl id 0 (s.length+1) 2 none] true false)) (fun k u=>u.d=[]∧u.h=g8.put p (.cells [hv,.sl id 0 (s.length+1) 2 none] true false)∧u.t.get 53=some (.int .i64 0)∧u.t.get 54=some (.int .i64 0)) ?_ 0 ?_) ?_
  ·rintro k ⟨tt,g,dd⟩ ⟨e2,rfl,t53,t54⟩
   dsimp only at e2 t53 t54
   subst e2
   simp -dsimp only [go_sem,t53,t54]
   first | exact ⟨by first | trivial | rfl,by first | trivial | rfl,by first | trivial | rfl⟩ | exact trivial
  ·simp -dsimp only [go_sem]
   first | exact ⟨trivial,trivial,trivial,trivial⟩ | exact ⟨by first | trivial | rfl,by first | trivial | rfl,by first | trivial | rfl,by first | trivial | rfl⟩ | trivial
  ·rintro ex ⟨tt,g,dd⟩ ⟨rfl,rfl,rfl⟩
   simp -dsimp only [go_sem]
   exact ⟨by first | trivial | rfl,KD,l,(by rw [hshT];exact hz9),zg9,hi⟩
end
structure InvOK (Inv:Nat→List Hd→Prop):Prop where
 mono:∀n m l,Inv n l→n≤m→Inv m l
 gone:∀n l d f,Inv n l→Inv n (goneF l d f)
 forg:∀n l f,Inv n l→Inv n (forF l f)
 pos:∀n l,Inv n l→∀x∈l,x.now.path≠[]→0<x.past.length
 st:∀n l,Inv n l→∀x∈l,x.start≤x.past.length
 bd:∀n l,Inv n l→l.length≤n∧∀x∈l,x.past.length≤n
 set:∀n l k r,Inv n l→r.path=k.2.2→backF l k r=false→Inv (n+1) (setF l k r)
 set2:∀n l c k cp r,Inv n l→c≠k→backF l k r=false→backF (setF l c cp) k r=false
 clr:∀n l i x,Inv n l→l[i]? = some x→Inv n (l.set i { x with now:=rc0 })
theorem InvOK.g {Inv:Nat→List Hd→Prop} (hI:InvOK Inv) (n:Nat):InvG (Inv n):=⟨fun l d f=>hI.gone n l d f,fun l f=>hI.forg n l f,fun l=>hI.pos n l⟩
def SB (b:Nat) (s:List Mt):Prop:=s.length≤b∧∀m∈s,szM m b
theorem SB.mono {b c:Nat} {s:List Mt} (h:SB b s) (hc:b≤c):SB c s:=⟨Nat.le_trans h.1 hc,fun m hm=>⟨Nat.le_trans (h.2 m hm).1 hc,fun r hr=>Nat.le_trans ((h.2 m hm).2 r hr) hc⟩⟩
theorem SB.sh {b:Nat} {s:List Mt} {m:Mt} (d:Int) (h:SB b s) (hm:szM m (b+1)):SB (b+1) (shF s d m):=by
 have h1:=h.mono (Nat.le_succ b)
 unfold shF
 split
 ·refine ⟨by rw [List.length_set];exact h1.1,fun x hx=>?_⟩
  rcases List.mem_or_eq_of_mem_set hx with hx | rfl
  ·exact h1.2 x hx
  ·exact hm
 ·refine ⟨by have:=h.1;simp;omega,fun x hx=>?_⟩
  rcases List.mem_append.1 hx with hx | hx
  ·exact h1.2 x (List.mem_of_mem_take hx)
  ·rcases List.mem_cons.1 hx with rfl | hx
   ·exact hm
   ·exact h1.2 x (List.mem_of_mem_drop hx)
def Act (Inv:Nat→List Hd→Prop) (n0:Nat) (K:Nat→Nat) (h:AH) (p n b:Nat) (v:AV) (h':AH):Prop:=∃why K' l' s',v=.int .i64 why∧Zs n0 K' h' p l' s'∧Zg K h K' h'∧(why=0→Inv n l'∧SB b s')
structure Se where
 kind:Int
 dev:Int
 peer:Int
 num:Int
 folder:List Nat
 path:List Nat
 dkind:Int
 dfolder:List Nat
 dpath:List Nat
 rc:Rc
 copy:List Nat
 cp:Rc
 ckind:Int
 cfolder:List Nat
 cdev:Int
 mt:Mt
 rs:List Rc
def Sa (K:Nat→Nat) (h:AH) (cs:List AV) (x:Se):Prop:=∃v1 d1 v2 d2 rw rv,cs=[.int .i64 x.kind,.int .i64 x.dev,.int .i64 x.peer,.int .i64 x.num,.str x.folder,.str x.path,.int .i64 x.dkind,.str x.dfolder,.str x.dpath,.str x.rc.path,v1,.int .i64 x.rc.own,.bool x.rc.gone,.int .i64 x.rc.size,.int .i64 x.rc.len,d1,.str x.copy,.str x.cp.path,v2,.int .i64 x.cp.own,.bool x.cp.gone,.int .i64 x.cp.size,.int .i64 x.cp.len,d2,.int .i64 x.ckind,.str x.cfolder,.int .i64 x.cdev,.int .i64 x.mt.own,rw,rv] ∧
 Cv K h v1 x.rc.vec∧Dv K h d1 x.rc.digs∧x.rc.path.length≤1000000∧Cv K h v2 x.cp.vec∧Dv K h d2 x.cp.digs∧x.cp.path.length≤1000000∧Ws K h rw x.mt.rows∧Rs K h rv x.rs
theorem Sa.gk {K:Nat→Nat} {h h':AH} {cs:List AV} {x:Se} (hb:Sa K h cs x) (g:Gk K h h'):Sa K h' cs x:=let ⟨a,b,c,d,e,f,h0,h1,h2,h3,h4,h5,h6,h7,h8⟩:=hb;⟨a,b,c,d,e,f,h0,h1.gk g,h2.gk g,h3,h4.gk g,h5.gk g,h6,h7.gk g,h8.gk g⟩
theorem Sa.fr {K:Nat→Nat} {h h':AH} {cs:List AV} {x:Se} (hb:Sa K h cs x) (f:Fr h h'):Sa K h' cs x:=hb.gk (f.gk K)
theorem Sa.col {K K':Nat→Nat} {h:AH} {cs:List AV} {x:Se} (hb:Sa K h cs x) (hk:∀j,j<h.nx→K j=0→K' j=0):Sa K' h cs x:=let ⟨a,b,c,d,e,f,h0,h1,h2,h3,h4,h5,h6,h7,h8⟩:=hb;⟨a,b,c,d,e,f,h0,h1.col hk,h2.col hk,h3,h4.col hk,h5.col hk,h6,h7.col hk,h8.col hk⟩
section
variable {S : Sums}
theorem putC (hS:Nf S) {n0:Nat} {K:Nat→Nat} {h:AH} {p:Nat} {l:List Hd} {s:List Mt} {cr:List AV} {r:Rc} (k:Ky) (hz:Zs n0 K h p l s) (hr:Ra K h cr r) (hl:l.length<1000000) (hp:∀x∈l,x.past.length<1000000) (hst:∀x∈l,x.start≤x.past.length):RnC Tryz.prog S 74 [.ptr p 0,.agg [.int .i64 k.1,.str k.2.1,.str k.2.2],.agg cr] h fun v h'=>(v=.int .i64 3∧Zs n0 K h' p l s∧Zg K h K h')∨(v=.int .i64 0∧backF l k r=false∧∃K',Zs n0 K' h' p (setF l k r) s∧Zg K h K' h'):=by
 have hr0:=hr
 obtain ⟨wv,wd,rfl,hwv,hwd,hrp⟩:=hr
 have owv:=hwv.ln.2.2.2
 have owd:=hwd.ln.2.2
 have mwv:=oneM owv
 have mwd:=oneM owd
 refine RnC.enter' Tryz.f74 _ 15 [.tmp 6] (hS.nb _ _ _ (by simp)) bd74 Tryz.func74 rfl rfl rfl ?_
 simp -dsimp only [go_sem,owv,owd,mwv,mwd]
 generalize hg:((h.new (.cells [.int .i64 k.1,.str k.2.1,.str k.2.2] true false)).new (.cells [.str r.path,wv,.int .i64 r.own,.bool r.gone,.int .i64 r.size,.int .i64 r.len,wd] true false))=g1
 have n1:g1.nx=h.nx+2:=by rw [←hg];rfl
 have f1:Fr h g1:=by rw [←hg];exact (Fr.new _ _).news _
 have q1:g1.get h.nx=some (.cells [.int .i64 k.1,.str k.2.1,.str k.2.2] true false):=by rw [←hg];exact (AH.get_new_ne (by simp [AH.new])).trans (AH.get_new_eq rfl)
 have q2:g1.get (h.nx+1)=some (.cells [.str r.path,wv,.int .i64 r.own,.bool r.gone,.int .i64 r.size,.int .i64 r.len,wd] true false):=by rw [←hg];exact AH.get_new_eq rfl
 clear hg
 have hz1:=hz.fr f1
 have hr1:=hr0.fr f1
 try simp -dsimp only [go_sem,q1,q2,owv,owd,mwv,mwd]
 refine callK_of (backC hS.toMo k hz1.vs.vw hst (hr1.col fun _ _ _=>rfl)) ?_
 rintro v g2 ⟨rfl,f2⟩
 have n2:=f2.nx
 have u1:=(f2.get _ (by omega)).trans q1
 have u2:=(f2.get _ (by omega)).trans q2
 have hz2:=hz1.fr f2
 cases hb:backF l k r
 ·simp -dsimp only [go_sem,hb,u1,u2,owv,owd,mwv,mwd]
  refine callK_of (setC hS k hz2 (hr1.fr f2) hl hp) ?_
  rintro v g3 ⟨rfl,K',hz3,zg3⟩
  try simp -dsimp only [go_sem]
  exact .inr ⟨by first | trivial | rfl,by first | trivial | rfl,K',hz3,(fr_zg (f1.trans f2) K).trans zg3⟩
 ·simp -dsimp only [go_sem,hb]
  exact .inl ⟨by first | trivial | rfl,hz2,fr_zg (f1.trans f2) K⟩
theorem atC (hS:Nf S) {K:Nat→Nat} {h:AH} {cs:List AV} {x:Se} (hx:Sa K h cs x):RnC Tryz.prog S 73 [.agg cs] h fun v h'=>v=.agg [.int .i64 x.dev,.str x.dfolder,.str x.rc.path]∧Fr h h':=by
 obtain ⟨v1,d1,v2,d2,rw',rv,rfl,h1,h2,h3,h4,h5,h6,h7,h8⟩:=hx
 have o1:=h1.ln.2.2.2
 have o2:=h2.ln.2.2
 have o4:=h4.ln.2.2.2
 have o5:=h5.ln.2.2
 have o7:=h7.ln.2.2
 have o8:=h8.ln.2.2
 have p1:=oneM o1
 have p2:=oneM o2
 have p4:=oneM o4
 have p5:=oneM o5
 have p7:=oneM o7
 have p8:=oneM o8
 refine RnC.enter' Tryz.f73 _ 13 [.cell 2 75] (hS.nb _ _ _ (by simp)) bd73 Tryz.func73 rfl rfl rfl ?_
 simp -dsimp (disch:=repeat first|rw [nxn]|rw [nxp]|omega) only [go_sem,o1,o2,o4,o5,o7,o8,p1,p2,p4,p5,p7,p8,bldK]
 exact ⟨by first | trivial | rfl,((Fr.new _ _).news _).put _ (by show h.nx≤h.nx+1;omega)⟩
end
end Go.Proofs.YtihigekgnnoejaaGreatDoor.mdl
end