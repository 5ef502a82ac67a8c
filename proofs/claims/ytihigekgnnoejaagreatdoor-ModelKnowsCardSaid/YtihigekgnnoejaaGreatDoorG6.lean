/- Texts joined: MU, MV, MW, MX. -/
import Derived.Test.YtihigekgnnoejaaGreatDoorG5
set_option maxRecDepth 100000
set_option linter.unusedVariables false
set_option linter.unusedSimpArgs false
set_option maxHeartbeats 32000000
section
namespace Go.Proofs.YtihigekgnnoejaaGreatDoor.mdl
open Go Go.Abs Go.Proofs
structure Mp (S:Sums):Prop extends Mo S where
 np:∀f args h,f∈[13,14,39,8,24,30,32,27,28,29,31,33,69,100]→S f args h=none
theorem bldS (a b:AV):evBuild Tryz.prog 73 [(0,.agg [a,b])]=some (.agg [a,b]):=by kernel_rfl
section
variable {S : Sums}
theorem knowsC (hS:Mp S) {K:Nat→Nat} {h:AH} {hv sv:AV} {l:List Hd} {cr:List AV} {r:Rc} (f:List Nat) (hH:Hs K h hv l) (os:oneA sv=true) (hr:Ra K h cr r):RnC Tryz.prog S 13 [.agg [hv,sv],.str f,.agg cr] h fun v h'=>v=.bool ((versF l f r.path).any fun x=>sameR x r)∧Fr h h':=by
 have hr0:=hr
 obtain ⟨w,d,rfl,hwv,hd,_⟩:=hr
 refine RnC.enter' Tryz.f13 _ 21 [.cell 6 4] (hS.np _ _ _ (by simp)) bd13 Tryz.func13 rfl rfl rfl ?_
 obtain ⟨lv,svv,ov⟩:=hH.ln
 have ow:=hwv.ln.2.2.2
 have od:=hd.ln.2.2
 have mw:=oneM ow
 have md:=oneM od
 have mo:=oneM ov
 have ms:=oneM os
 simp -dsimp (disch:=repeat first|rw [nxn]|rw [nxp]|omega) only [go_sem,ow,od,mw,md,ov,os,mo,ms,bldS]
 generalize hg:((((h.new (.cells [hv,sv] true false)).new (.cells [.str r.path,w,.int .i64 r.own,.bool r.gone,.int .i64 r.size,.int .i64 r.len,d] true false)).new (.cells [.bool false] true false)).new (.cells [hv,sv] true false))=g1
 have n1:g1.nx=h.nx+4:=by rw [←hg];rfl
 have f1:Fr h g1:=by rw [←hg];exact (((Fr.new _ _).news _).news _).news _
 have q0:g1.get (h.nx+1+1+1)=some (.cells [hv,sv] true false):=by rw [←hg];exact AH.get_new_eq rfl
 have q1:g1.get (h.nx+1)=some (.cells [.str r.path,w,.int .i64 r.own,.bool r.gone,.int .i64 r.size,.int .i64 r.len,d] true false):=by rw [←hg];exact (AH.get_new_ne (by first | (simp [AH.new];done) | (simp [AH.new];omega))).trans ((AH.get_new_ne (by simp [AH.new])).trans (AH.get_new_eq rfl))
 have q3:g1.get (h.nx+1+1)=some (.cells [.bool false] true false):=by rw [←hg];exact (AH.get_new_ne (by simp [AH.new])).trans (AH.get_new_eq rfl)
 try simp -dsimp (disch:=repeat first|rw [nxn]|rw [nxp]|omega) only [go_sem,q0,q1]
 refine callK_of (knownC hS.toMo f r.path) ?_
 rintro v g2 ⟨rfl,hg2⟩
 have f2:Fr g1 g2:=by rw [hg2];exact ((Fr.new _ _).news _).news _
 have n2:g2.nx=g1.nx+3:=by rw [hg2];rfl
 have p1:g2.get g1.nx=some (.cells [.ptr (h.nx+1+1+1) 0] true false):=by rw [hg2];exact (AH.get_new_ne (by first | (simp [AH.new];done) | (simp [AH.new];omega))).trans ((AH.get_new_ne (by first | (simp [AH.new];done) | (simp [AH.new];omega))).trans (AH.get_new_eq rfl))
 have p2:g2.get (g1.nx+1)=some (.cells [.str f] true false):=by rw [hg2];exact (AH.get_new_ne (by simp [AH.new])).trans (AH.get_new_eq rfl)
 have p3:g2.get (g1.nx+2)=some (.cells [.str r.path] true false):=by rw [hg2];exact AH.get_new_eq rfl
 have p0:=(f2.get _ (by omega)).trans q0
 clear hg2
 simp -dsimp (disch:=repeat first|rw [nxn]|rw [nxp]|omega) only [go_sem,evLen,loopHead,bd50]
 generalize hlo:AO.loop LoopState.ready none _ _ _ _ _ _ _=lo
 have hp2:∀j,j<h.nx→(fun _:Nat=>0) j=0→Kb (Kb (fun _=>0) (h.nx+2) (h.nx+3)) g2.nx (g2.nx+2) j=0:=fun j hj hh=>(Kb.out (.inl (by omega))).trans (Kb.out (.inl (by omega)))
 have kz:∀j,j≠h.nx+2→(j<g2.nx∨g2.nx+2≤j)→Kb (Kb (fun _=>0) (h.nx+2) (h.nx+3)) g2.nx (g2.nx+2) j=0:=fun j h1 h2=>by rw [Kb.out h2,Kb.out (by omega)]
 have k1n:Kb (Kb (fun _=>0) (h.nx+2) (h.nx+3)) g2.nx (g2.nx+2) (g2.nx+1)≠0:=Kb.in (by omega) (by omega)
 have k2n:Kb (Kb (fun _=>0) (h.nx+2) (h.nx+3)) g2.nx (g2.nx+2) (h.nx+2)≠0:=by rw [Kb.out (by omega)];exact Kb.in (by omega) (by omega)
 generalize Kb (Kb (fun _=>0) (h.nx+2) (h.nx+3)) g2.nx (g2.nx+2)=K' at *
 have fin2:Fr g2 ((g2.new (.defs true)).new lo):=(Fr.new _ _).news _
 have hH3:=(((hH.col (K':=fun _=>0) fun _ _ _=>rfl).col hp2).fr f1).fr f2
 have hr3:=(((hr0.col (K':=fun _=>0) fun _ _ _=>rfl).col hp2).fr f1).fr f2
 have nn:((g2.new (.defs true)).new lo).nx=g2.nx+2:=rfl
 have frF:∀g,Gk K' g2 g→Fr h g:=fun g gk=>⟨by have:=gk.nx;omega,fun j hj=>(gk.get j (by omega) (kz j (by omega) (by omega))).trans ((f2.get j (by omega)).trans (f1.get j hj))⟩
 generalize hL:versF l f r.path=L
 refine callK_of (known1C hS.toMo (K:=K') (h0:=g2) (h:=(g2.new (.defs true)).new lo) (y:=g2.nx+1) (p:=h.nx+1+1+1) (bs:=g1.nx) (bf:=g1.nx+1) (bq:=g1.nx+2) (hv:=hv) (sv:=sv) (l:=l) (f:=f) (q:=r.path)
  (fun i g=>(L.take i).any (fun x=>sameR x r)=false∧g.get (h.nx+2)=some (.cells [.bool false] true false)∧g.get (g2.nx+1)=some lo∧g.get g2.nx=some (.defs true)∧g2.nx+2≤g.nx∧Gk K' g2 g)
  (fun g=>∃fn te n ps a b d,L.any (fun x=>sameR x r)=true∧g.get (h.nx+2)=some (.cells [.bool true] true false)∧g.get (g2.nx+1)=some (.loop .done (some .ret) fn te n ps a b d)∧g.get g2.nx=some (.defs true)∧g2.nx+2≤g.nx∧Gk K' g2 g)
  p0 (by omega) hH3 p1 (by omega) p2 (by omega) p3 (by omega) (kz _ (by omega) (by omega)) (kz _ (by omega) (by omega)) (kz _ (by omega) (by omega)) (kz _ (by omega) (by omega)) (fun i g hh=>hh.2.2.2.2.2) ?_ ?_ ?_) ?_
 ·rintro i g g' ⟨a0,a1,a2,a3,a4,a5⟩ ff
  have:=ff.nx
  exact ⟨a0,(ff.get _ (by omega)).trans a1,(ff.get _ (by omega)).trans a2,(ff.get _ (by omega)).trans a3,by omega,a5.trans (ff.gk _)⟩
 ·rintro i g cs x hxi ⟨a0,a1,a2,a3,a4,a5⟩ hxr
  rw [hL] at hxi
  rw [←hlo] at a2
  have hxr0:=hxr
  obtain ⟨wx,dx,rfl,hwx,hdx,_⟩:=hxr
  have ox:=hwx.ln.2.2.2
  have odx:=hdx.ln.2.2
  have mx:=oneM ox
  have mdx:=oneM odx
  refine RnR.enter a2 (by simp [setArgs];rfl) ?_
  simp -dsimp (disch:=repeat first|rw [nxn]|rw [nxp]|omega) only [go_sem,evLen,ox,odx,mx,mdx]
  refine ⟨rfl,_,_,_,_,_,_,_,_,(AH.get_put_ne (by omega)).trans ((AH.get_new_ne (by omega)).trans a2),?_⟩
  refine busy_gen ?_
  intro gb e1 e2 e3
  dsimp only at e1 e2 e3
  have e1':gb.nx=g.nx+1:=e1
  have c3:Gk K' g gb:=⟨by omega,fun j hj hk=>(e2 j fun hh=>k1n (hh▸hk)).trans ((AH.get_put_ne (by omega)).trans (AH.get_new_ne (by omega)))⟩
  have bx:∀j o,j<g1.nx→j≠h.nx+2→g1.get j=some o→gb.get j=some o:=fun j o h1 h2 h3=>(c3.get j (by omega) (kz j h2 (by omega))).trans ((a5.get j (by omega) (kz j h2 (by omega))).trans ((f2.get j h1).trans h3))
  have z1:=bx _ _ (by omega) (by omega) q1
  have zx:gb.get g.nx=some (.cells [.str x.path,wx,.int .i64 x.own,.bool x.gone,.int .i64 x.size,.int .i64 x.len,dx] true false):=(e2 _ (by omega)).trans (AH.get_put_eq rfl)
  have c1:gb.get (h.nx+2)=some (.cells [.bool false] true false):=(e2 (h.nx+2) (by omega)).trans ((AH.get_put_ne (by omega)).trans ((AH.get_new_ne (by omega)).trans a1))
  have c2:gb.get g2.nx=some (.defs true):=(e2 g2.nx (by omega)).trans ((AH.get_put_ne (by omega)).trans ((AH.get_new_ne (by omega)).trans a3))
  simp -dsimp (disch:=repeat first|rw [nxn]|rw [nxp]|omega) only [go_sem,evLen,z1,zx,ow,od,ox,odx]
  refine callK_of (recSameC hS.toMr (hxr0.gk c3) ((hr3.gk a5).gk c3)) ?_
  rintro v g6 ⟨rfl,f6⟩
  have n6:=f6.nx
  have c6:=c3.trans (f6.gk K')
  have d1:g6.get (h.nx+1+1)=some (.cells [.bool false] true false):=(f6.get _ (by omega)).trans c1
  have d2:=(f6.get _ (by omega)).trans c2
  have d3:=(f6.get _ (by omega)).trans e3
  have c7:=a5.trans c6
  have htk:L.take (i+1)=L.take i++[x]:=by rw [List.take_add_one,hxi];rfl
  by_cases hsm:sameR x r=true
  ·simp -dsimp (disch:=repeat first|rw [nxn]|rw [nxp]|omega) only [go_sem,evLen,d1,hsm]
   have c4:Gk K' g (g6.put (h.nx+1+1) (.cells [.bool true] true false)):=c6.put (.inl k2n) _
   have c5:=a5.trans c4
   exact ⟨_,_,_,_,_,_,_,_,_,(AH.get_put_ne (by omega)).trans d3,.inr ⟨rfl,⟨_,_,_,_,_,_,_,List.any_eq_true.2 ⟨x,List.mem_iff_getElem?.2 ⟨i,hxi⟩,hsm⟩,(AH.get_put_ne (by omega)).trans (AH.get_put_eq rfl),AH.get_put_eq rfl,(AH.get_put_ne (by omega)).trans ((AH.get_put_ne (by omega)).trans d2),(by show g2.nx+2≤g6.nx;omega),c5.put (.inl k1n) _⟩⟩⟩
  ·rw [Bool.not_eq_true] at hsm
   simp -dsimp (disch:=repeat first|rw [nxn]|rw [nxp]|omega) only [go_sem,evLen,d1,hsm]
   exact ⟨_,_,_,_,_,_,_,_,_,d3,.inl ⟨rfl,by rw [htk,List.any_append,a0];simp [hsm],(AH.get_put_ne (by omega)).trans d1,by rw [←hlo];exact AH.get_put_eq rfl,(AH.get_put_ne (by omega)).trans d2,(by show g2.nx+2≤g6.nx;omega),c7.put (.inl k1n) _⟩⟩
 ·exact ⟨rfl,(fin2.get _ (by omega)).trans ((f2.get _ (by omega)).trans q3),AH.get_new_eq rfl,(AH.get_new_ne (by simp [AH.new])).trans (AH.get_new_eq rfl),by omega,fin2.gk _⟩
 ·rintro v g3 (⟨a0,a1,a2,a3,a4,a5⟩ | ⟨fn,te,n,ps,a,b,d,a0,a1,a2,a3,a4,a5⟩)
  ·rw [hL,List.take_length] at a0
   have a2':g3.get (g2.new (AO.defs true)).nx=_:=a2
   unfold loopTail
   rw [a2',←hlo]
   have w2:∀o,(g3.put (g2.nx+1) o).get g2.nx=some (.defs true):=fun o=>(AH.get_put_ne (by omega)).trans a3
   have w3:∀o o2,((g3.put (g2.nx+1) o).put g2.nx o2).get (h.nx+1+1)=some (.cells [.bool false] true false):=fun o o2=>(AH.get_put_ne (by omega)).trans ((AH.get_put_ne (by omega)).trans a1)
   have a1':g3.get (h.nx+1+1)=_:=a1
   simp -dsimp (disch:=repeat first|rw [nxn]|rw [nxp]|omega) only [go_sem,evLen,w2,w3,a1',takeMarks]
   have f5:=frF _ a5
   exact ⟨by rw [a0],⟨f5.nx,fun j hj=>(AH.get_put_ne (by omega)).trans ((AH.get_put_ne (by omega)).trans ((AH.get_put_ne (by omega)).trans (f5.get j hj)))⟩⟩
  ·have a2':g3.get (g2.new (AO.defs true)).nx=_:=a2
   unfold loopTail
   rw [a2']
   have w2:∀o,(g3.put (g2.nx+1) o).get g2.nx=some (.defs true):=fun o=>(AH.get_put_ne (by omega)).trans a3
   have w3:∀o o2,((g3.put (g2.nx+1) o).put g2.nx o2).get (h.nx+1+1)=some (.cells [.bool true] true false):=fun o o2=>(AH.get_put_ne (by omega)).trans ((AH.get_put_ne (by omega)).trans a1)
   have a1':g3.get (h.nx+1+1)=_:=a1
   simp -dsimp (disch:=repeat first|rw [nxn]|rw [nxp]|omega) only [go_sem,evLen,w2,w3,a1',takeMarks]
   have f5:=frF _ a5
   exact ⟨by rw [a0],⟨f5.nx,fun j hj=>(AH.get_put_ne (by omega)).trans ((AH.get_put_ne (by omega)).trans (f5.get j hj))⟩⟩
end
theorem aiRc:appI Tryz.prog 36=some (7,96):=by kernel_rfl
def Rz (n0:Nat) (K:Nat→Nat) (h:AH) (v:AV) (rs:List Rc):Prop:=∃css:List (List AV),(∀j,h.nx≤j→K j=0)∧Ez 7 n0 h v css.flatten∧css.length=rs.length∧(∀(i:Nat) cs x,css[i]? = some cs→rs[i]? = some x→Ra K h cs x)∧(∀id o n c,v=.sl id o n 7 c→K id≠0)
theorem Rz.fr {n0:Nat} {K:Nat→Nat} {h h':AH} {v:AV} {rs:List Rc} (hb:Rz n0 K h v rs) (f:Fr h h'):Rz n0 K h' v rs:=by
 obtain ⟨css,a1,a2,a3,a4,a5⟩:=hb
 exact ⟨css,fun j hj=>a1 j (Nat.le_trans f.nx hj),a2.fr f,a3,fun i cs x h1 h2=>(a4 i cs x h1 h2).fr f,a5⟩
theorem Rz.nil (n0:Nat) {K:Nat→Nat} {h:AH} (top:∀j,h.nx≤j→K j=0):Rz n0 K h .nilsl [] :=
 ⟨[],top,.inl ⟨rfl,rfl⟩,rfl,(fun i cs x h1 _=>by cases h1),(fun id o n c hh=>by cases hh)⟩
theorem Rz.id {n0:Nat} {K:Nat→Nat} {h:AH} {v:AV} {rs:List Rc} (hb:Rz n0 K h v rs) {id o n:Nat} {c:Option Nat} (hv:v=.sl id o n 7 c):n0≤id∧id<h.nx∧K id≠0:=by
 obtain ⟨css,a1,a2,a3,a4,a5⟩:=hb
 have hh:n0≤id∧id<h.nx:=by
  rcases a2 with ⟨h1,_⟩ | ⟨id',n',c',tx,h1,h2,h3,h4,_⟩
  ·rw [hv] at h1;cases h1
  ·rw [hv] at h1;cases h1;exact ⟨h4,h3⟩
 exact ⟨hh.1,hh.2,a5 id o n c hv⟩
theorem Rz.top {n0:Nat} {K:Nat→Nat} {h:AH} {v:AV} {rs:List Rc} (hb:Rz n0 K h v rs):∀j,h.nx≤j→K j=0:=let ⟨_,a1,_⟩:=hb;a1
theorem Rz.keep {n0:Nat} {K:Nat→Nat} {h h':AH} {v:AV} {rs:List Rc} (hb:Rz n0 K h v rs) (g:Gk K h h') (ho:∀id o n c,v=.sl id o n 7 c→h'.get id=h.get id):Rz n0 K h' v rs:=by
 obtain ⟨css,a1,a2,a3,a4,a5⟩:=hb
 refine ⟨css,fun j hj=>a1 j (Nat.le_trans g.nx hj),?_,a3,fun i cs x h1 h2=>(a4 i cs x h1 h2).gk g,a5⟩
 rcases a2 with h1 | ⟨id,n,c,tx,h1,h2,h3,h4,h5⟩
 ·exact .inl h1
 ·exact .inr ⟨id,n,c,tx,h1,(ho _ _ _ _ h1).trans h2,Nat.lt_of_lt_of_le h3 g.nx,h4,h5⟩
theorem Rz.more {n0:Nat} {K K':Nat→Nat} {h h':AH} {v:AV} {rs:List Rc} (hb:Rz n0 K h v rs) (f:Fr h h') (hk:∀j,j<h.nx→K' j=K j) (top:∀j,h'.nx≤j→K' j=0):Rz n0 K' h' v rs:=by
 have hid:=fun id o n c hv=>hb.id (id:=id) (o:=o) (n:=n) (c:=c) hv
 obtain ⟨css,a1,a2,a3,a4,a5⟩:=hb
 exact ⟨css,top,a2.fr f,a3,fun i cs x h1 h2=>((a4 i cs x h1 h2).col fun j hj hz=>(hk j hj).trans hz).fr f,fun id o n c hv=>by rw [hk id (hid id o n c hv).2.1];exact a5 id o n c hv⟩
theorem ra7 {K:Nat→Nat} {h:AH} {cs:List AV} {r:Rc} (hb:Ra K h cs r):cs.length=7∧cs.all oneA=true:=by
 obtain ⟨v,d,rfl,h2,h3,_⟩:=hb
 exact ⟨rfl,by simp [h2.ln.2.2.2,h3.ln.2.2];simp [oneA]⟩
theorem flat7 {css:List (List AV)} (hc:∀cs∈css,cs.length=7):css.flatten.length=css.length*7:=by
 induction css with
 | nil=>rfl
 | cons a l ih =>
  rw [List.flatten_cons,List.length_append,ih fun cs hcs=>hc cs (List.mem_cons_of_mem _ hcs),hc a (List.mem_cons_self ..),List.length_cons]
  omega
theorem flat7_at {css:List (List AV)} (hc:∀cs∈css,cs.length=7) {i:Nat} {cs:List AV} (hi:css[i]? = some cs):(css.flatten.drop (i*7)).take 7=cs:=by
 induction css generalizing i with
 | nil=>cases hi
 | cons a l ih =>
  have ha:=hc a (List.mem_cons_self ..)
  cases i with
  | zero =>
   cases hi
   rw [Nat.zero_mul,List.drop_zero,List.flatten_cons,List.take_append_of_le_length (by omega),←ha,List.take_length]
  | succ i =>
   rw [List.flatten_cons,show (i+1)*7=a.length+i*7 by omega,←List.drop_drop,List.drop_left]
   exact ih (fun cs hcs=>hc cs (List.mem_cons_of_mem _ hcs)) hi
theorem Rz.seven {K:Nat→Nat} {h:AH} {rs:List Rc} {css:List (List AV)} (a3:css.length=rs.length) (a4:∀(i:Nat) cs x,css[i]? = some cs→rs[i]? = some x→Ra K h cs x):∀cs∈css,cs.length=7:=by
 intro cs hcs
 obtain ⟨i,hi⟩:=List.mem_iff_getElem?.1 hcs
 have hl:i<css.length:=by
  rcases Nat.lt_or_ge i css.length with hh | hh
  ·exact hh
  ·rw [List.getElem?_eq_none hh] at hi;cases hi
 exact (ra7 (a4 i cs _ hi (List.getElem?_eq_getElem (by omega)))).1
theorem Rz.rs {n0:Nat} {K:Nat→Nat} {h:AH} {v:AV} {rs:List Rc} (hb:Rz n0 K h v rs) (hl:rs.length≤1000000):Rs (fun _=>0) h v rs:=by
 obtain ⟨css,a1,a2,a3,a4,a5⟩:=hb
 have h7:=Rz.seven a3 a4
 have hf:=flat7 h7
 refine ⟨?_,hl⟩
 rcases a2 with ⟨rfl,h2⟩ | ⟨id,n,c,tx,rfl,h2,h3,h4,h5,h6,h7'⟩
 ·rw [h2] at hf
  exact .inl ⟨rfl,List.length_eq_zero_iff.1 (by simp at hf;omega)⟩
 ·have hn:n=rs.length:=by omega
  subst hn
  refine .inr ⟨id,0,c,_,_,_,rfl,h2,h3,rfl,?_,by omega,?_⟩
  ·intro k hk
   rcases h6 with h6 | h6
   ·rw [h6] at hk;cases hk
   ·rw [h6] at hk;cases hk;exact Nat.le_refl _
  ·intro i x hi
   have hil:i<rs.length:=by
    rcases Nat.lt_or_ge i rs.length with hh | hh
    ·exact hh
    ·rw [List.getElem?_eq_none hh] at hi;cases hi
   have hci:css[i]? = some css[i]:=List.getElem?_eq_getElem (by omega)
   rw [Nat.zero_add,flat7_at h7 hci]
   exact (a4 i _ x hci hi).col fun _ _ _=>rfl
theorem Rz.app {h0 h:AH} {K:Nat→Nat} {v:AV} {rs:List Rc} {i:Nat} {cb:List AV} {x:Rc} (hb:Rz h0.nx K h v rs) (hx:Ra K h cb x) (hi:h.get i=some (.cells cb true false)) (hf:Fr h0 h) (hl:rs.length≤1000000) :
  ∃v' h' K',evAppend Tryz.prog h #[44,44] v (.sl i 0 1 7 (some 1))=some (.val v' h')∧Fr h0 h'∧oneA v'=true∧sameAV 20 v' v'=true∧Rz h0.nx K' h' v' (rs++[x])∧(∀j,j<h.nx→K' j=K j)∧h.nx≤h'.nx∧(∀j,j<h.nx→(∀id o n c,v=.sl id o n 7 c→j≠id)→h'.get j=h.get j):=by
 obtain ⟨css,a1,a2,a3,a4,a5⟩:=hb
 have h7:=Rz.seven a3 a4
 have hfl:=flat7 h7
 obtain ⟨hc7,hco⟩:=ra7 hx
 obtain ⟨v',h',b1,b2,b3,b4,b5,b6,b7⟩:=Ez.app2 (P:=Tryz.prog) (h0:=h0) (h:=h) (v:=v) (x:=.sl i 0 1 7 (some 1)) (l:=css.flatten) (m:=cb) (k:=1) Tryz.underlying44 Tryz.underlying44 (by rfl) aiRc (by decide) a2 rfl (by rw [firstA_sl hi (Nat.le_refl _) (by omega),List.drop_zero,←hc7,Nat.one_mul,List.take_length]) (by omega) hco hf (by omega) (by omega)
 rcases b7 with ⟨h1,_⟩ | ⟨id,n,rfl,hid⟩
 ·cases h1
 ·have hlt:id<h'.nx:=by
   rcases b3 with ⟨hh,_⟩ | ⟨id',n',c',tx',hh,_,h3,_⟩
   ·cases hh
   ·cases hh;exact h3
  have gk:Gk (Kb K id (id+1)) h h':=⟨b5,fun j hj hk=>b6 j hj fun id' o n c hv hh=>a5 id' o n c hv (by rw [←hh];exact Kb.z hk)⟩
  refine ⟨_,h',Kb K id (id+1),b1,b2,b4,by simp [sameAV],⟨css++[cb],fun j hj=>(Kb.out (.inr (by omega))).trans (a1 j (by omega)),by rw [List.flatten_append];simpa using b3,by simp [a3],?_,?_⟩,fun j hj=>Kb.out (.inl (by omega)),b5,b6⟩
  ·intro j cs y h1 h2
   rcases Nat.lt_or_ge j css.length with hh | hh
   ·rw [List.getElem?_append_left hh] at h1
    rw [List.getElem?_append_left (by omega)] at h2
    exact ((a4 j cs y h1 h2).col fun q hq hk=>(Kb.out (.inl (by omega))).trans hk).gk gk
   ·rw [List.getElem?_append_right hh] at h1
    rw [List.getElem?_append_right (by omega)] at h2
    have e1:j-css.length=0:=by
     rcases Nat.eq_zero_or_pos (j-css.length) with e | e
     ·exact e
     ·rw [List.getElem?_eq_none (by simp only [List.length_singleton];omega)] at h1;cases h1
    rw [e1] at h1
    rw [←a3,e1] at h2
    cases h1
    cases h2
    exact (hx.col fun q hq hk=>(Kb.out (.inl (by omega))).trans hk).gk gk
  ·intro id' o' n' c' hh
   cases hh
   exact Kb.in (Nat.le_refl _) (Nat.lt_succ_self _)
section
variable {S : Sums}
theorem vers1C (hS:Mp S) {K:Nat→Nat} {h:AH} {bx:Nat} {cs cr:List AV} {x r:Rc} (hx:Ra K h cs x) (hb:h.get bx=some (.cells cr true false)) (hr:Ra K h cr r) (hn:bx<h.nx):RnC Tryz.prog S 39 [.agg cs,.ptr bx 0] h fun v h'=>(∃b,v=.bool b∧b=sameR x r)∧Fr h h':=by
 have hx0:=hx
 have hr0:=hr
 obtain ⟨w,d,rfl,hw,hd,_⟩:=hx
 obtain ⟨v,e,rfl,hv,he,_⟩:=hr
 refine RnC.enter' Tryz.f39 _ 7 [.tmp 3] (hS.np _ _ _ (by simp)) bd39 Tryz.func39 rfl rfl rfl ?_
 have ow:=hw.ln.2.2.2
 have od:=hd.ln.2.2
 have ov:=hv.ln.2.2.2
 have oe:=he.ln.2.2
 have mw:=oneM ow
 have md:=oneM od
 have f1:Fr h (h.new (.cells [.str x.path,w,.int .i64 x.own,.bool x.gone,.int .i64 x.size,.int .i64 x.len,d] true false)):=Fr.new _ _
 have hb1:=(f1.get bx hn).trans hb
 simp -dsimp only [go_sem,ow,od,mw,md,ov,oe,hb1]
 refine callK_of (recSameC hS.toMr (hx0.fr f1) (hr0.fr f1)) ?_
 rintro v2 g2 ⟨rfl,f2⟩
 try simp -dsimp only [go_sem]
 exact ⟨⟨_,rfl,rfl⟩,f1.trans f2⟩
end
def addF (acc:List Rc) (x:Rc):List Rc:=if acc.any fun y=>sameR y x then acc else acc++[x]
theorem addF_len (acc:List Rc) (x:Rc):(addF acc x).length≤acc.length+1:=by
 unfold addF
 split
 ·omega
 ·simp
theorem fold_len (l acc:List Rc):(l.foldl addF acc).length≤acc.length+l.length:=by
 induction l generalizing acc with
 | nil=>exact Nat.le_refl _
 | cons x l ih =>
  have:=addF_len acc x
  have:=ih (addF acc x)
  simp only [List.foldl_cons,List.length_cons]
  omega
section
variable {S : Sums}
theorem versionsC (hS:Mp S) {K:Nat→Nat} {h:AH} {hv sv:AV} {l:List Hd} (f q:List Nat) (hH:Hs K h hv l) (os:oneA sv=true) (hm:(versF l f q).length≤1000000):RnC Tryz.prog S 14 [.agg [hv,sv],.str f,.str q] h fun v h'=>Rs (fun _=>0) h' v ((versF l f q).foldl addF [])∧Fr h h':=by
 refine RnC.enter' Tryz.f14 _ 28 [.tmp 6] (hS.np _ _ _ (by simp)) bd14 Tryz.func14 rfl rfl rfl ?_
 obtain ⟨lv,svv,ov⟩:=hH.ln
 have mo:=oneM ov
 have ms:=oneM os
 simp -dsimp only [go_sem,ov,os,mo,ms,bldS]
 generalize hg:(((h.new (.cells [hv,sv] true false)).new (.cells [hv,sv] true false)).new (.cells [.nilsl] true false))=g1
 have n1:g1.nx=h.nx+3:=by rw [←hg];rfl
 have f1:Fr h g1:=by rw [←hg];exact ((Fr.new _ _).news _).news _
 have q0:g1.get (h.nx+1)=some (.cells [hv,sv] true false):=by rw [←hg];exact (AH.get_new_ne (by simp [AH.new])).trans (AH.get_new_eq rfl)
 have q3:g1.get (h.nx+1+1)=some (.cells [.nilsl] true false):=by rw [←hg];exact AH.get_new_eq rfl
 try simp -dsimp only [go_sem,q0]
 refine callK_of (knownC hS.toMo f q) ?_
 rintro v g2 ⟨rfl,hg2⟩
 have f2:Fr g1 g2:=by rw [hg2];exact ((Fr.new _ _).news _).news _
 have n2:g2.nx=g1.nx+3:=by rw [hg2];rfl
 have p1:g2.get g1.nx=some (.cells [.ptr (h.nx+1) 0] true false):=by rw [hg2];exact (AH.get_new_ne (by first | (simp [AH.new];done) | (simp [AH.new];omega))).trans ((AH.get_new_ne (by first | (simp [AH.new];done) | (simp [AH.new];omega))).trans (AH.get_new_eq rfl))
 have p2:g2.get (g1.nx+1)=some (.cells [.str f] true false):=by rw [hg2];exact (AH.get_new_ne (by simp [AH.new])).trans (AH.get_new_eq rfl)
 have p3:g2.get (g1.nx+2)=some (.cells [.str q] true false):=by rw [hg2];exact AH.get_new_eq rfl
 have p0:=(f2.get _ (by omega)).trans q0
 clear hg2
 simp -dsimp only [go_sem,evLen,loopHead,bd50]
 generalize hlo:AO.loop LoopState.ready none _ _ _ _ _ _ _=lo
 obtain ⟨K',kz,kn⟩:∃K':Nat→Nat,(∀j,j≠h.nx+2→j<g2.nx→K' j=0)∧(∀j,K' j=0→j≠h.nx+2∧j<g2.nx):=⟨fun j=>if j≠h.nx+2∧j<g2.nx then 0 else 1,fun j h1 h2=>if_pos ⟨h1,h2⟩,fun j hj=>by
  dsimp only at hj
  split at hj
  ·assumption
  ·cases hj⟩
 have hp2:∀j,j<h.nx→(fun _:Nat=>0) j=0→K' j=0:=fun j hj _=>kz j (by omega) (by omega)
 have k1n:K' (g2.nx+1)≠0:=fun hh=>by have:=kn _ hh;omega
 have fin2:Fr g2 ((g2.new (.defs true)).new lo):=(Fr.new _ _).news _
 have hH3:=(((hH.col (K':=fun _=>0) fun _ _ _=>rfl).col hp2).fr f1).fr f2
 have nn:((g2.new (.defs true)).new lo).nx=g2.nx+2:=rfl
 have frF:∀g,Gk K' g2 g→Fr h g:=fun g gk=>⟨by have:=gk.nx;omega,fun j hj=>(gk.get j (by omega) (kz j (by omega) (by omega))).trans ((f2.get j (by omega)).trans (f1.get j hj))⟩
 generalize hL:versF l f q=L at hm ⊢
 refine callK_of (known1C hS.toMo (K:=K') (h0:=g2) (h:=(g2.new (.defs true)).new lo) (y:=g2.nx+1) (p:=h.nx+1) (bs:=g1.nx) (bf:=g1.nx+1) (bq:=g1.nx+2) (hv:=hv) (sv:=sv) (l:=l) (f:=f) (q:=q)
  (fun i g=>(∃v Kx,g.get (h.nx+1+1)=some (.cells [v] true false)∧Rz (g2.nx+2) Kx g v ((L.take i).foldl addF [])∧(∀j,K' j=0→Kx j=0)∧(∀j,j<g2.nx+2→K' j≠0→Kx j≠0))∧g.get (g2.nx+1)=some lo∧g.get g2.nx=some (.defs true)∧g2.nx+2≤g.nx∧Gk K' g2 g)
  (fun g=>False)
  p0 (by omega) hH3 p1 (by omega) p2 (by omega) p3 (by omega) (kz _ (by omega) (by omega)) (kz _ (by omega) (by omega)) (kz _ (by omega) (by omega)) (kz _ (by omega) (by omega)) (fun i g hh=>hh.2.2.2.2) ?_ ?_ ?_) ?_
 ·rintro i g g' ⟨⟨v,Kx,a0,a1,x1,x2⟩,a2,a3,a4,a5⟩ ff
  have:=ff.nx
  exact ⟨⟨v,Kx,(ff.get _ (by omega)).trans a0,a1.fr ff,x1,x2⟩,(ff.get _ (by omega)).trans a2,(ff.get _ (by omega)).trans a3,by omega,a5.trans (ff.gk _)⟩
 ·rintro i g cs x hxi ⟨⟨v,Kx,a0,a1,x1,x2⟩,a2,a3,a4,a5⟩ hxr
  rw [hL] at hxi
  rw [←hlo] at a2
  have hxr0:=hxr
  obtain ⟨wx,dx,rfl,hwx,hdx,_⟩:=hxr
  have ox:=hwx.ln.2.2.2
  have odx:=hdx.ln.2.2
  have mx:=oneM ox
  have mdx:=oneM odx
  refine RnR.enter a2 (by simp [setArgs];rfl) ?_
  simp -dsimp only [go_sem,evLen,ox,odx,mx,mdx]
  refine ⟨rfl,_,_,_,_,_,_,_,_,(AH.get_put_ne (by omega)).trans ((AH.get_new_ne (by omega)).trans a2),?_⟩
  refine busy_gen ?_
  intro gb e1 e2 e3
  dsimp only at e1 e2 e3
  have e1':gb.nx=g.nx+1:=e1
  have c3:Gk K' g gb:=⟨by omega,fun j hj hk=>(e2 j fun hh=>k1n (hh▸hk)).trans ((AH.get_put_ne (by omega)).trans (AH.get_new_ne (by omega)))⟩
  have zx:gb.get g.nx=some (.cells [.str x.path,wx,.int .i64 x.own,.bool x.gone,.int .i64 x.size,.int .i64 x.len,dx] true false):=(e2 _ (by omega)).trans (AH.get_put_eq rfl)
  have c1:gb.get (h.nx+1+1)=some (.cells [v] true false):=(e2 (h.nx+2) (by omega)).trans ((AH.get_put_ne (by omega)).trans ((AH.get_new_ne (by omega)).trans a0))
  have c2:gb.get g2.nx=some (.defs true):=(e2 g2.nx (by omega)).trans ((AH.get_put_ne (by omega)).trans ((AH.get_new_ne (by omega)).trans a3))
  have ar:Rz (g2.nx+2) Kx gb v ((L.take i).foldl addF []):=a1.keep ⟨by omega,fun j hj hk=>(e2 j fun hh=>x2 _ (by omega) k1n (by rw [←hh];exact hk)).trans ((AH.get_put_ne (by omega)).trans (AH.get_new_ne (by omega)))⟩ fun id o n c hv=>by
   have:=a1.id hv
   exact (e2 id (by omega)).trans ((AH.get_put_ne (by omega)).trans (AH.get_new_ne (by omega)))
  have idv:∀id o n c,v=.sl id o n 7 c→g2.nx+2≤id∧id<g.nx:=fun id o n c hv=>⟨(a1.id hv).1,(a1.id hv).2.1⟩
  clear a1
  have ov1:oneA v=true∧sameAV 20 v v=true:=by obtain ⟨css,_,b2,_⟩:=ar;exact ⟨(Ez.one b2).2,(Ez.one b2).1⟩
  obtain ⟨ov1,sv1⟩:=ov1
  have hil:i<L.length:=by
   rcases Nat.lt_or_ge i L.length with hh | hh
   ·exact hh
   ·rw [List.getElem?_eq_none hh] at hxi;cases hxi
  have hal:((L.take i).foldl addF []).length<1000000:=by
   have:=fold_len (L.take i) []
   rw [List.length_take] at this
   simp only [List.length_nil] at this
   omega
  have htk:(L.take (i+1)).foldl addF []=addF ((L.take i).foldl addF []) x:=by rw [List.take_add_one,hxi,List.foldl_append];rfl
  generalize hA:(L.take i).foldl addF []=A at ar hal htk
  simp -dsimp only [go_sem,evLen,zx,c1,ov1]
  have hxb:=hxr0.gk c3
  have hx0:=hxb.col (K':=fun _=>0) fun _ _ _=>rfl
  refine callK_of (conC hS.toMo (K:=fun _=>0) (R:=fun y b=>b=sameR y x) (ar.rs (by omega)) fun g' cs y fg hy hym=>vers1C hS hy ((fg.get _ (by omega)).trans zx) (hx0.fr fg) (by have:=fg.nx;omega)) ?_
  rintro v6 g5 ⟨⟨bb,rfl,hb1,hb2⟩,f5⟩
  have n5:=f5.nx
  have d1:g5.get (h.nx+1+1)=some (.cells [v] true false):=(f5.get _ (by omega)).trans c1
  have d2:=(f5.get _ (by omega)).trans c2
  have d3:=(f5.get _ (by omega)).trans e3
  have dx5:=(f5.get _ (by omega)).trans zx
  have c6:=c3.trans (f5.gk K')
  have c7:=a5.trans c6
  have ar5:=ar.fr f5
  cases bb
  case true =>
   have hAx:addF A x=A:=by
    obtain ⟨y,hy,hyx⟩:=hb1 rfl
    unfold addF
    rw [if_pos (List.any_eq_true.2 ⟨y,hy,hyx.symm⟩)]
   simp -dsimp only [go_sem,evLen]
   refine ⟨_,_,_,_,_,_,_,_,_,d3,.inl ⟨rfl,⟨v,Kx,(AH.get_put_ne (by omega)).trans d1,by rw [htk,hAx];exact ar5.keep ((Gk.refl _ _).put (.inl (x2 _ (by omega) k1n)) _) fun id o n c hv=>AH.get_put_ne (by have:=idv _ _ _ _ hv;omega),x1,x2⟩,by rw [←hlo];exact AH.get_put_eq rfl,(AH.get_put_ne (by omega)).trans d2,(by show g2.nx+2≤g5.nx;omega),c7.put (.inl k1n) _⟩⟩
  case false =>
   have hAx:addF A x=A++[x]:=by
    unfold addF
    rw [if_neg]
    intro hh
    obtain ⟨y,hy,hyx⟩:=List.any_eq_true.1 hh
    rw [←hb2 rfl y hy] at hyx
    cases hyx
   simp -dsimp only [go_sem,evLen]
   refine syDraw.keepN 5 (fun j=>j=h.nx+1+1∨j=g.nx) (by kernel_rfl) (by kernel_rfl) rfl ?_
   have fx:Fr g5 { tr:=g5.tr,nx:=g5.nx+6 }:=(Fr.refl g5).more _ (by omega)
   simp -dsimp (disch:=repeat first|rw [nxn]|rw [nxp]|omega) only [go_sem,evLen,d1,dx5,ov1,sv1,ox,odx,true_and,true_or,or_true,implies_true,svi,svb,svs,svp,hxr0.sv]
   have topz:∀j,g5.nx+6≤j→Kb Kx g5.nx (g5.nx+6) j=0:=fun j hj=>(Kb.out (.inr hj)).trans (ar5.top j (by omega))
   have hxs:=(((hxb.fr f5).col (K':=Kb Kx g5.nx (g5.nx+6)) fun j hj hk=>(Kb.out (.inl hj)).trans (x1 j hk))).fr fx
   refine callK_of (copyC hS.toMr hxs topz) ?_
   rintro v7 g6 ⟨⟨cb,rfl,hcb⟩,f6⟩
   have n6:g5.nx+6≤g6.nx:=f6.nx
   have hcb0:=hcb
   obtain ⟨wb,db,rfl,hwb,hdb,_⟩:=hcb
   have owb:=hwb.ln.2.2.2
   have odb:=hdb.ln.2.2
   have cwb:=cells1 owb
   have cdb:=cells1 odb
   refine ⟨fun j' hj'=>f6.get j' (by show j'<g5.nx+6;rcases hj' with rfl | rfl <;> omega),?_⟩
   have f66:=fx.trans f6
   have arz:Rz (g2.nx+2) (Kb Kx g5.nx (g5.nx+6)) g6 v A:=(ar5.more fx (fun j hj=>Kb.out (.inl hj)) topz).fr f6
   have arp:Rz (g2.nx+2) (Kb Kx g5.nx (g5.nx+6)) (g6.put (g5.nx+3) (.cells [.str x.path,wb,.int .i64 x.own,.bool x.gone,.int .i64 x.size,.int .i64 x.len,db] true false)) v A:=arz.keep ((Gk.refl _ _).put (.inl (Kb.in (by omega) (by omega))) _) fun id o n c hv=>AH.get_put_ne (by have:=idv _ _ _ _ hv;omega)
   have hcp:=hcb0.gk ((Gk.refl (Kb Kx g5.nx (g5.nx+6)) g6).put (i:=g5.nx+3) (.inl (Kb.in (by omega) (by omega))) (.cells [.str x.path,wb,.int .i64 x.own,.bool x.gone,.int .i64 x.size,.int .i64 x.len,db] true false))
   obtain ⟨v',h',K2,b1,b2,b3,b4,b5,b6,b7,b8⟩:=Rz.app (h0:={ tr:=(g6.put (g5.nx+3) (.cells [.str x.path,wb,.int .i64 x.own,.bool x.gone,.int .i64 x.size,.int .i64 x.len,db] true false)).tr,nx:=g2.nx+2 }) arp hcp (AH.get_put_eq rfl) ⟨by show g2.nx+2≤g6.nx;omega,fun j hj=>rfl⟩ (by omega)
   have b7':g6.nx≤h'.nx:=b7
   have bk:∀j,j<g2.nx+2∨j=g.nx→h'.get j=g5.get j:=fun j hj=>(b8 j (by show j<g6.nx;omega) fun id o n c hv=>by have:=idv _ _ _ _ hv;omega).trans ((AH.get_put_ne (by omega)).trans (f66.get j (by omega)))
   have m1:h'.get (h.nx+1+1)=some (.cells [v] true false):=(bk _ (.inl (by omega))).trans d1
   have k2n:K' (h.nx+2)≠0:=fun hh=>(kn _ hh).1 rfl
   have y2:∀j,j<g2.nx+2→K' j≠0→K2 j≠0:=fun j hj hk=>by rw [b6 j (by show j<g6.nx;omega),Kb.out (.inl (by omega))];exact x2 j hj hk
   have y1:∀j,K' j=0→K2 j=0:=fun j hk=>by have:=kn j hk;exact (b6 j (by show j<g6.nx;omega)).trans ((Kb.out (.inl (by omega))).trans (x1 j hk))
   have cv1:=cells1 b3
   simp -dsimp (disch:=repeat first|rw [nxn]|rw [nxp]|omega) only [go_sem,evLen,owb,odb,cwb,cdb,b1,b3,b4,true_and,true_or,or_true,implies_true,svi,svb,svs,svp]
   refine ⟨fun j' hj'=>(b8 j' (by show j'<g6.nx;rcases hj' with rfl | rfl <;> omega) fun id o n c hv=>by have:=idv _ _ _ _ hv;rcases hj' with rfl | rfl <;> omega).trans (AH.get_put_ne (by rcases hj' with rfl | rfl <;> omega)),?_⟩
   have mv1:=oneM b3
   simp -dsimp (disch:=repeat first|rw [nxn]|rw [nxp]|omega) only [go_sem,evLen,m1,cv1,b3,mv1]
   have c8:Gk K' g5 h':=⟨by omega,fun j hj hk=>bk j (.inl (by have:=kn j hk;omega))⟩
   exact ⟨_,_,_,_,_,_,_,_,_,(AH.get_put_ne (by omega)).trans ((bk _ (.inl (by omega))).trans d3),.inl ⟨rfl,⟨v',K2,(AH.get_put_ne (by omega)).trans (AH.get_put_eq rfl),by rw [htk,hAx];exact b5.keep (((Gk.refl _ _).put (.inl (y2 _ (by omega) k2n)) _).put (.inl (y2 _ (by omega) k1n)) _) fun id o n c hv=>(by have:g2.nx+2≤id:=(b5.id hv).1;exact (AH.get_put_ne (by omega)).trans (AH.get_put_ne (by omega))),y1,y2⟩,by rw [←hlo];exact AH.get_put_eq rfl,(AH.get_put_ne (by omega)).trans ((AH.get_put_ne (by omega)).trans ((bk _ (.inl (by omega))).trans d2)),(by show g2.nx+2≤h'.nx;omega),((c7.trans c8).put (.inl k2n) _).put (.inl k1n) _⟩⟩
 ·exact ⟨⟨.nilsl,Kb (Kb (fun _=>0) (h.nx+2) (h.nx+3)) g2.nx (g2.nx+2),(fin2.get _ (by omega)).trans ((f2.get _ (by omega)).trans q3),Rz.nil _ (fun j hj=>(Kb.out (.inr (by omega))).trans (Kb.out (.inr (by omega)))),fun j hj=>by have:=kn j hj;exact (Kb.out (.inl (by omega))).trans (Kb.out (by omega)),fun j hj hk hh=>hk (kz j (fun h1=>Kb.in (a:=h.nx+2) (b:=h.nx+3) (K:=fun _=>0) (j:=j) (by omega) (by omega) (Kb.z hh)) (by rcases Nat.lt_or_ge j g2.nx with h1 | h1;exact h1;exact (Kb.in h1 hj hh).elim))⟩,AH.get_new_eq rfl,(AH.get_new_ne (by simp [AH.new])).trans (AH.get_new_eq rfl),by omega,fin2.gk _⟩
 ·rintro v g3 (⟨⟨w,Kx,a0,a1,x1,x2⟩,a2,a3,a4,a5⟩ | hX)
  ·rw [hL,List.take_length] at a1
   have a2':g3.get (g2.new (AO.defs true)).nx=_:=a2
   unfold loopTail
   rw [a2',←hlo]
   have w2:∀o,(g3.put (g2.nx+1) o).get g2.nx=some (.defs true):=fun o=>(AH.get_put_ne (by omega)).trans a3
   have ov1:oneA w=true:=by obtain ⟨css,_,b2,_⟩:=a1;exact (Ez.one b2).2
   simp -dsimp (disch:=repeat first|rw [nxn]|rw [nxp]|omega) only [go_sem,evLen,w2,a0,ov1,takeMarks]
   have f5:=frF _ a5
   have hll:=fold_len L []
   refine ⟨(a1.keep (((Gk.refl _ _).put (.inl (x2 _ (by omega) k1n)) _).put (.inl (x2 g2.nx (by omega) fun hh=>by have:=kn _ hh;omega)) _) fun id o n c hv=>(by have:=(a1.id hv).1;exact (AH.get_put_ne (by omega)).trans (AH.get_put_ne (by omega)))).rs (by simp only [List.length_nil] at hll;omega),⟨f5.nx,fun j hj=>(AH.get_put_ne (by omega)).trans ((AH.get_put_ne (by omega)).trans (f5.get j hj))⟩⟩
  ·exact hX.elim
end
theorem neInt (h:AH) (t:TypeId) (a b:Int):binA Tryz.prog h .neq t (.int .i64 a) (.int .i64 b)=some (.bool (!decide (a=b))):=by
 show intA .neq .i64 a b=_
 by_cases e:a=b <;> simp [intA,e]
def Iv (K:Nat→Nat) (h:AH) (v:AV) (l:List Int):Prop:=Fl K 1 h v (l.flatMap fun i=>[AV.int .i64 i])∧l.length≤1000000
theorem Iv.gk {K:Nat→Nat} {h h':AH} {v:AV} {l:List Int} (hb:Iv K h v l) (g:Gk K h h'):Iv K h' v l:=⟨hb.1.gk g,hb.2⟩
theorem Iv.fr {K:Nat→Nat} {h h':AH} {v:AV} {l:List Int} (hb:Iv K h v l) (f:Fr h h'):Iv K h' v l:=hb.gk (f.gk K)
theorem Iv.col {K K':Nat→Nat} {h:AH} {v:AV} {l:List Int} (hb:Iv K h v l) (hk:∀j,j<h.nx→K j=0→K' j=0):Iv K' h v l:=⟨hb.1.col hk,hb.2⟩
theorem ivc_len (l:List Int):(l.flatMap fun i=>[AV.int .i64 i]).length=l.length*1:=flat_len _ 1 (fun _=>rfl) l
theorem Iv.ln {K:Nat→Nat} {h:AH} {v:AV} {l:List Int} (hb:Iv K h v l):(∀g,evLen Tryz.prog g #[82] v=some (.int .i64 (l.length:Nat)))∧sameAV 20 v v=true∧oneA v=true :=
 ⟨Fl.len hb.1 Tryz.underlying82 (by decide) (ivc_len l),Fl.one hb.1⟩
theorem Iv.at {K:Nat→Nat} {h:AH} {v:AV} {l:List Int} {i:Nat} {c:Int} (hb:Iv K h v l) (hi:l[i]? = some c):∃id off cc cs o t,v=.sl id off l.length 1 cc∧h.get id=some (.cells cs o t)∧id<h.nx∧K id=0∧off+i*1+1≤cs.length∧cs[off+i]? = some (.int .i64 c):=by
 have hil:i<l.length:=(List.getElem?_eq_some_iff.1 hi).1
 obtain ⟨id,off,cc,cs,o,t,h1,h2,h3,h4,h5,h6,h7⟩:=Fl.at hb.1 (by decide) (ivc_len l) hil
 obtain ⟨e1,e2⟩:=flat_at (fun i=>[AV.int .i64 i]) 1 (fun _=>rfl) hi
 have e3:=(h7 0 (by decide)).trans (e2 0 (by decide))
 rw [Nat.mul_one] at e3
 exact ⟨id,off,cc,cs,o,t,h1,h2,h3,h4,h5,e3⟩
structure Rw where
 folder:List Nat
 own:List Int
deriving DecidableEq
def Wa (K:Nat→Nat) (h:AH) (cs:List AV) (r:Rw):Prop:=∃v,cs=[.str r.folder,v]∧Iv K h v r.own
theorem Wa.gk {K:Nat→Nat} {h h':AH} {cs:List AV} {r:Rw} (hb:Wa K h cs r) (g:Gk K h h'):Wa K h' cs r:=let ⟨v,e,h1⟩:=hb;⟨v,e,h1.gk g⟩
theorem Wa.col {K K':Nat→Nat} {h:AH} {cs:List AV} {r:Rw} (hb:Wa K h cs r) (hk:∀j,j<h.nx→K j=0→K' j=0):Wa K' h cs r:=let ⟨v,e,h1⟩:=hb;⟨v,e,h1.col hk⟩
def Ws (K:Nat→Nat) (h:AH) (v:AV) (l:List Rw):Prop:=Sl K 2 (Wa K h) h v l∧l.length≤1000000
theorem Ws.gk {K:Nat→Nat} {h h':AH} {v:AV} {l:List Rw} (hb:Ws K h v l) (g:Gk K h h'):Ws K h' v l:=⟨hb.1.gk g fun cs x hx=>hx.gk g,hb.2⟩
theorem Ws.fr {K:Nat→Nat} {h h':AH} {v:AV} {l:List Rw} (hb:Ws K h v l) (f:Fr h h'):Ws K h' v l:=hb.gk (f.gk K)
theorem Ws.col {K K':Nat→Nat} {h:AH} {v:AV} {l:List Rw} (hb:Ws K h v l) (hk:∀j,j<h.nx→K j=0→K' j=0):Ws K' h v l:=⟨hb.1.col hk fun cs x hx=>hx.col hk,hb.2⟩
theorem Ws.ln {K:Nat→Nat} {h:AH} {v:AV} {l:List Rw} (hb:Ws K h v l):(∀g,evLen Tryz.prog g #[41] v=some (.int .i64 (l.length:Nat)))∧sameAV 20 v v=true∧oneA v=true :=
 ⟨Sl.len hb.1 Tryz.underlying41,Sl.one hb.1⟩
theorem Ws.el {K:Nat→Nat} {h:AH} {v:AV} {l:List Rw} {i:Nat} {x:Rw} (hb:Ws K h v l) (hi:l[i]? = some x):∃id off c cs o t w,v=.sl id off l.length 2 c∧h.get id=some (.cells cs o t)∧id<h.nx∧off+i*2+2≤cs.length∧(cs.drop (off+i*2)).take 2=[.str x.folder,w]∧Iv K h w x.own:=by
 obtain ⟨id,off,c,cs,o,t,h1,h2,h3,h4,h5,⟨w,e1,e2⟩,h7⟩:=Sl.at hb.1 hi
 exact ⟨id,off,c,cs,o,t,w,h1,h2,h3,h5,e1,e2⟩
structure Mt where
 own:Int
 rows:List Rw
deriving DecidableEq
def Ma (K:Nat→Nat) (h:AH) (cs:List AV) (r:Mt):Prop:=∃v,cs=[.int .i64 r.own,v]∧Ws K h v r.rows
theorem Ma.gk {K:Nat→Nat} {h h':AH} {cs:List AV} {r:Mt} (hb:Ma K h cs r) (g:Gk K h h'):Ma K h' cs r:=let ⟨v,e,h1⟩:=hb;⟨v,e,h1.gk g⟩
theorem Ma.fr {K:Nat→Nat} {h h':AH} {cs:List AV} {r:Mt} (hb:Ma K h cs r) (f:Fr h h'):Ma K h' cs r:=hb.gk (f.gk K)
theorem Ma.col {K K':Nat→Nat} {h:AH} {cs:List AV} {r:Mt} (hb:Ma K h cs r) (hk:∀j,j<h.nx→K j=0→K' j=0):Ma K' h cs r:=let ⟨v,e,h1⟩:=hb;⟨v,e,h1.col hk⟩
def Ms (K:Nat→Nat) (h:AH) (v:AV) (l:List Mt):Prop:=Sl K 2 (Ma K h) h v l∧l.length≤1000000
theorem Ms.gk {K:Nat→Nat} {h h':AH} {v:AV} {l:List Mt} (hb:Ms K h v l) (g:Gk K h h'):Ms K h' v l:=⟨hb.1.gk g fun cs x hx=>hx.gk g,hb.2⟩
theorem Ms.fr {K:Nat→Nat} {h h':AH} {v:AV} {l:List Mt} (hb:Ms K h v l) (f:Fr h h'):Ms K h' v l:=hb.gk (f.gk K)
theorem Ms.col {K K':Nat→Nat} {h:AH} {v:AV} {l:List Mt} (hb:Ms K h v l) (hk:∀j,j<h.nx→K j=0→K' j=0):Ms K' h v l:=⟨hb.1.col hk fun cs x hx=>hx.col hk,hb.2⟩
theorem Ms.ln {K:Nat→Nat} {h:AH} {v:AV} {l:List Mt} (hb:Ms K h v l):(∀g,evLen Tryz.prog g #[26] v=some (.int .i64 (l.length:Nat)))∧sameAV 20 v v=true∧oneA v=true :=
 ⟨Sl.len hb.1 Tryz.underlying26,Sl.one hb.1⟩
theorem Ms.el {K:Nat→Nat} {h:AH} {v:AV} {l:List Mt} {i:Nat} {x:Mt} (hb:Ms K h v l) (hi:l[i]? = some x):∃id off c cs o t w,v=.sl id off l.length 2 c∧h.get id=some (.cells cs o t)∧id<h.nx∧off+i*2+2≤cs.length∧(cs.drop (off+i*2)).take 2=[.int .i64 x.own,w]∧Ws K h w x.rows:=by
 obtain ⟨id,off,c,cs,o,t,h1,h2,h3,h4,h5,⟨w,e1,e2⟩,h7⟩:=Sl.at hb.1 hi
 exact ⟨id,off,c,cs,o,t,w,h1,h2,h3,h5,e1,e2⟩
instance:DecidableEq Rc:=fun a b=>decidable_of_iff (sameR a b=true) sameR_iff
section
variable {S : Sums}
theorem eqRcC (hS:Mp S) {K:Nat→Nat} {h:AH} {v w:AV} {a b:List Rc} {f:FuncId} (hv:Rs K h v a) (hw:Rs K h w b) (hf:∀g ca cb x y,Fr h g→Ra K g ca x→Ra K g cb y→RnC Tryz.prog S f [.agg ca,.agg cb] g fun r g'=>r=.bool (decide (x=y))∧Fr g g'):RnC Tryz.prog S 27 [v,w,.func (.func f) [] []] h fun r h'=>r=.bool (decide (a=b))∧Fr h h':=by
 refine RnC.enter' Tryz.f27 _ 32 [.tmp 6] (hS.np _ _ _ (by simp)) bd27 Tryz.func27 rfl rfl rfl ?_
 obtain ⟨lv,sv,ov⟩:=hv.ln
 obtain ⟨lw,sw,ow⟩:=hw.ln
 have ha:=hv.2
 by_cases hab:((a.length:Nat):Int)=((b.length:Nat):Int)
 case neg =>
  have:¬a=b:=fun hh=>hab (by rw [hh])
  simp -dsimp (disch:=repeat first|rw [nxn]|rw [nxp]|omega) only [go_sem,lv,ov,lw,ow,hab]
  exact ⟨by simp [this],Fr.refl _⟩
 simp -dsimp (disch:=repeat first|rw [nxn]|rw [nxp]|omega) only [go_sem,lv,ov,lw,ow,hab]
 refine loopK_of (RnL.rounds (Q:=fun ex u=>u.d=[]∧Fr h u.h∧(ex=.exit 0∧a=b∨ex=.ret∧u.t.get 6=some (.bool false)∧¬a=b))
  (fun m u=>u.d=[]∧Fr h u.h∧u.t.get 0=some v∧u.t.get 1=some w∧u.t.get 2=some (.func (.func f) [] [])∧u.t.get 15=some v∧u.t.get 16=some (.int .i64 (a.length:Nat))∧∃i:Nat,u.t.get 17=some (.int .i64 (i:Nat))∧i≤a.length∧(a=b↔a.drop i=b.drop i)∧m=a.length-i) ?_ a.length ?_) ?_
 ·rintro m ⟨tt,g,d⟩ ⟨e2,e1,g0,g1,g2,g15,g16,i,g17,hi,hiff,rfl⟩
  dsimp only at e1 e2 g0 g1 g2 g15 g16 g17
  subst e2
  by_cases c4:(i:Int)<(a.length:Nat)
  ·have hil:i<a.length:=by omega
   have hib:i<b.length:=by omega
   obtain ⟨p,hp⟩:∃p,a[i]? = some p:=⟨_,List.getElem?_eq_getElem hil⟩
   obtain ⟨q,hq⟩:∃q,b[i]? = some q:=⟨_,List.getElem?_eq_getElem hib⟩
   obtain ⟨id,off,c,cs,o,tx,x1,d1,rfl,hgi,hidl,hle,hE,ew,ed,ep,_⟩:=(hv.fr e1).el hp
   obtain ⟨id2,off2,cc,cs2,oo,tx2,x2,d2,rfl,hgi2,hidl2,hle2,hE2,ew2,ed2,ep2,_⟩:=(hw.fr e1).el hq
   have o1:=ew.ln.2.2.2
   have o2:=ed.ln.2.2
   have o3:=ew2.ln.2.2.2
   have o4:=ed2.ln.2.2
   have q1:=oneM o1
   have q2:=oneM o2
   have q3:=oneM o3
   have q4:=oneM o4
   rw [drop_at hp,drop_at hq] at hiff
   have n1:=fun o:AO=>(AH.get_new_ne (h:=g) (o:=o) (Nat.ne_of_lt hidl2)).trans hgi2
   have f1:Fr g ((g.new (.cells [.str [],.nilsl,.int .i64 0,.bool false,.int .i64 0,.int .i64 0,.nilsl] true false)).put g.nx (.cells [.str p.path,x1,.int .i64 p.own,.bool p.gone,.int .i64 p.size,.int .i64 p.len,d1] true false)):=(Fr.new _ _).put _ (Nat.le_refl _)
   have m1:((g.new (.cells [.str [],.nilsl,.int .i64 0,.bool false,.int .i64 0,.int .i64 0,.nilsl] true false)).put g.nx (.cells [.str p.path,x1,.int .i64 p.own,.bool p.gone,.int .i64 p.size,.int .i64 p.len,d1] true false)).get g.nx=some (.cells [.str p.path,x1,.int .i64 p.own,.bool p.gone,.int .i64 p.size,.int .i64 p.len,d1] true false):=AH.get_put_eq rfl
   have m2:=(f1.get _ hidl2).trans hgi2
   have f2:Fr ((g.new (.cells [.str [],.nilsl,.int .i64 0,.bool false,.int .i64 0,.int .i64 0,.nilsl] true false)).put g.nx (.cells [.str p.path,x1,.int .i64 p.own,.bool p.gone,.int .i64 p.size,.int .i64 p.len,d1] true false)) ((((g.new (.cells [.str [],.nilsl,.int .i64 0,.bool false,.int .i64 0,.int .i64 0,.nilsl] true false)).put g.nx (.cells [.str p.path,x1,.int .i64 p.own,.bool p.gone,.int .i64 p.size,.int .i64 p.len,d1] true false)).new (.cells [.str [],.nilsl,.int .i64 0,.bool false,.int .i64 0,.int .i64 0,.nilsl] true false)).put (g.nx+1) (.cells [.str q.path,x2,.int .i64 q.own,.bool q.gone,.int .i64 q.size,.int .i64 q.len,d2] true false)):=(Fr.new _ _).put _ (Nat.le_refl _)
   have m3:=(f2.get g.nx (Nat.lt_succ_self _)).trans m1
   simp -dsimp (disch:=repeat first|rw [nxn]|rw [nxp]|omega) only [go_sem,c4,g0,g1,g2,g15,g16,g17,hil,hib,hgi,hle,hE,o1,o2,o3,o4,q1,q2,q3,q4,m1,m2,hle2,hE2,m3]
   refine callK_of (hf _ _ _ p q (e1.trans (f1.trans f2)) ⟨x1,d1,rfl,ew.fr (f1.trans f2),ed.fr (f1.trans f2),ep⟩ ⟨x2,d2,rfl,ew2.fr (f1.trans f2),ed2.fr (f1.trans f2),ep2⟩) ?_
   rintro r g6 ⟨rfl,f6⟩
   by_cases hpq:p=q
   ·have hd:decide (p=q)=true:=decide_eq_true hpq
    simp -dsimp (disch:=repeat first|rw [nxn]|rw [nxp]|omega) only [go_sem,hd,g0,g1,g2,g15,g16,g17]
    exact ⟨a.length-(i+1),by omega,trivial,(e1.trans (f1.trans f2)).trans f6,trivial,trivial,trivial,trivial,trivial,i+1,rfl,by omega,by rw [hiff];simp [hpq],rfl⟩
   ·have hd:decide (p=q)=false:=decide_eq_false hpq
    simp -dsimp (disch:=repeat first|rw [nxn]|rw [nxp]|omega) only [go_sem,hd,g0,g1,g2,g15,g16,g17]
    exact ⟨trivial,(e1.trans (f1.trans f2)).trans f6,.inr ⟨trivial,trivial,by rw [hiff];simp [hpq]⟩⟩
  ·have:i=a.length:=by omega
   subst this
   simp -dsimp (disch:=repeat first|rw [nxn]|rw [nxp]|omega) only [go_sem,c4,g0,g1,g2,g15,g16,g17]
   exact ⟨trivial,e1,.inl ⟨trivial,hiff.2 (by rw [List.drop_of_length_le (by omega),List.drop_of_length_le (by omega)])⟩⟩
 ·simp -dsimp (disch:=repeat first|rw [nxn]|rw [nxp]|omega) only [go_sem]
  exact ⟨trivial,Fr.refl _,trivial,trivial,trivial,trivial,by first | trivial | rw [hab],0,rfl,Nat.zero_le _,by simp,rfl⟩
 ·rintro ex ⟨tt,g,d⟩ ⟨rfl,e1,⟨rfl,hab'⟩ | ⟨rfl,t4,hab'⟩⟩
  ·dsimp only at e1
   simp -dsimp (disch:=repeat first|rw [nxn]|rw [nxp]|omega) only [go_sem]
   exact ⟨by simp [hab'],e1⟩
  ·dsimp only at e1 t4
   simp -dsimp (disch:=repeat first|rw [nxn]|rw [nxp]|omega) only [go_sem,t4]
   exact ⟨by simp [hab'],e1⟩
theorem eqRwC (hS:Mp S) {K:Nat→Nat} {h:AH} {v w:AV} {a b:List Rw} {f:FuncId} (hv:Ws K h v a) (hw:Ws K h w b) (hf:∀g ca cb x y,Fr h g→Wa K g ca x→Wa K g cb y→RnC Tryz.prog S f [.agg ca,.agg cb] g fun r g'=>r=.bool (decide (x=y))∧Fr g g'):RnC Tryz.prog S 31 [v,w,.func (.func f) [] []] h fun r h'=>r=.bool (decide (a=b))∧Fr h h':=by
 refine RnC.enter' Tryz.f31 _ 32 [.tmp 6] (hS.np _ _ _ (by simp)) bd31 Tryz.func31 rfl rfl rfl ?_
 obtain ⟨lv,sv,ov⟩:=hv.ln
 obtain ⟨lw,sw,ow⟩:=hw.ln
 have ha:=hv.2
 by_cases hab:((a.length:Nat):Int)=((b.length:Nat):Int)
 case neg =>
  have:¬a=b:=fun hh=>hab (by rw [hh])
  simp -dsimp (disch:=repeat first|rw [nxn]|rw [nxp]|omega) only [go_sem,lv,ov,lw,ow,hab]
  exact ⟨by simp [this],Fr.refl _⟩
 simp -dsimp (disch:=repeat first|rw [nxn]|rw [nxp]|omega) only [go_sem,lv,ov,lw,ow,hab]
 refine loopK_of (RnL.rounds (Q:=fun ex u=>u.d=[]∧Fr h u.h∧(ex=.exit 0∧a=b∨ex=.ret∧u.t.get 6=some (.bool false)∧¬a=b))
  (fun m u=>u.d=[]∧Fr h u.h∧u.t.get 0=some v∧u.t.get 1=some w∧u.t.get 2=some (.func (.func f) [] [])∧u.t.get 15=some v∧u.t.get 16=some (.int .i64 (a.length:Nat))∧∃i:Nat,u.t.get 17=some (.int .i64 (i:Nat))∧i≤a.length∧(a=b↔a.drop i=b.drop i)∧m=a.length-i) ?_ a.length ?_) ?_
 ·rintro m ⟨tt,g,d⟩ ⟨e2,e1,g0,g1,g2,g15,g16,i,g17,hi,hiff,rfl⟩
  dsimp only at e1 e2 g0 g1 g2 g15 g16 g17
  subst e2
  by_cases c4:(i:Int)<(a.length:Nat)
  ·have hil:i<a.length:=by omega
   have hib:i<b.length:=by omega
   obtain ⟨p,hp⟩:∃p,a[i]? = some p:=⟨_,List.getElem?_eq_getElem hil⟩
   obtain ⟨q,hq⟩:∃q,b[i]? = some q:=⟨_,List.getElem?_eq_getElem hib⟩
   obtain ⟨id,off,c,cs,o,tx,x1,rfl,hgi,hidl,hle,hE,ew⟩:=(hv.fr e1).el hp
   obtain ⟨id2,off2,cc,cs2,oo,tx2,x2,rfl,hgi2,hidl2,hle2,hE2,ew2⟩:=(hw.fr e1).el hq
   have o1:=ew.ln.2.2
   have o3:=ew2.ln.2.2
   have q1:=oneM o1
   have q3:=oneM o3
   rw [drop_at hp,drop_at hq] at hiff
   have n1:=fun o:AO=>(AH.get_new_ne (h:=g) (o:=o) (Nat.ne_of_lt hidl2)).trans hgi2
   have f1:Fr g ((g.new (.cells [.str [],.nilsl] true false)).put g.nx (.cells [.str p.folder,x1] true false)):=(Fr.new _ _).put _ (Nat.le_refl _)
   have m1:((g.new (.cells [.str [],.nilsl] true false)).put g.nx (.cells [.str p.folder,x1] true false)).get g.nx=some (.cells [.str p.folder,x1] true false):=AH.get_put_eq rfl
   have m2:=(f1.get _ hidl2).trans hgi2
   have f2:Fr ((g.new (.cells [.str [],.nilsl] true false)).put g.nx (.cells [.str p.folder,x1] true false)) ((((g.new (.cells [.str [],.nilsl] true false)).put g.nx (.cells [.str p.folder,x1] true false)).new (.cells [.str [],.nilsl] true false)).put (g.nx+1) (.cells [.str q.folder,x2] true false)):=(Fr.new _ _).put _ (Nat.le_refl _)
   have m3:=(f2.get g.nx (Nat.lt_succ_self _)).trans m1
   simp -dsimp (disch:=repeat first|rw [nxn]|rw [nxp]|omega) only [go_sem,c4,g0,g1,g2,g15,g16,g17,hil,hib,hgi,hle,hE,o1,o3,q1,q3,m1,m2,hle2,hE2,m3]
   refine callK_of (hf _ _ _ p q (e1.trans (f1.trans f2)) ⟨x1,rfl,ew.fr (f1.trans f2)⟩ ⟨x2,rfl,ew2.fr (f1.trans f2)⟩) ?_
   rintro r g6 ⟨rfl,f6⟩
   by_cases hpq:p=q
   ·have hd:decide (p=q)=true:=decide_eq_true hpq
    simp -dsimp (disch:=repeat first|rw [nxn]|rw [nxp]|omega) only [go_sem,hd,g0,g1,g2,g15,g16,g17]
    exact ⟨a.length-(i+1),by omega,trivial,(e1.trans (f1.trans f2)).trans f6,trivial,trivial,trivial,trivial,trivial,i+1,rfl,by omega,by rw [hiff];simp [hpq],rfl⟩
   ·have hd:decide (p=q)=false:=decide_eq_false hpq
    simp -dsimp (disch:=repeat first|rw [nxn]|rw [nxp]|omega) only [go_sem,hd,g0,g1,g2,g15,g16,g17]
    exact ⟨trivial,(e1.trans (f1.trans f2)).trans f6,.inr ⟨trivial,trivial,by rw [hiff];simp [hpq]⟩⟩
  ·have:i=a.length:=by omega
   subst this
   simp -dsimp (disch:=repeat first|rw [nxn]|rw [nxp]|omega) only [go_sem,c4,g0,g1,g2,g15,g16,g17]
   exact ⟨trivial,e1,.inl ⟨trivial,hiff.2 (by rw [List.drop_of_length_le (by omega),List.drop_of_length_le (by omega)])⟩⟩
 ·simp -dsimp (disch:=repeat first|rw [nxn]|rw [nxp]|omega) only [go_sem]
  exact ⟨trivial,Fr.refl _,trivial,trivial,trivial,trivial,by first | trivial | rw [hab],0,rfl,Nat.zero_le _,by simp,rfl⟩
 ·rintro ex ⟨tt,g,d⟩ ⟨rfl,e1,⟨rfl,hab'⟩ | ⟨rfl,t4,hab'⟩⟩
  ·dsimp only at e1
   simp -dsimp (disch:=repeat first|rw [nxn]|rw [nxp]|omega) only [go_sem]
   exact ⟨by simp [hab'],e1⟩
  ·dsimp only at e1 t4
   simp -dsimp (disch:=repeat first|rw [nxn]|rw [nxp]|omega) only [go_sem,t4]
   exact ⟨by simp [hab'],e1⟩
theorem eqMtC (hS:Mp S) {K:Nat→Nat} {h:AH} {v w:AV} {a b:List Mt} {f:FuncId} (hv:Ms K h v a) (hw:Ms K h w b) (hf:∀g ca cb x y,Fr h g→Ma K g ca x→Ma K g cb y→RnC Tryz.prog S f [.agg ca,.agg cb] g fun r g'=>r=.bool (decide (x=y))∧Fr g g'):RnC Tryz.prog S 29 [v,w,.func (.func f) [] []] h fun r h'=>r=.bool (decide (a=b))∧Fr h h':=by
 refine RnC.enter' Tryz.f29 _ 32 [.tmp 6] (hS.np _ _ _ (by simp)) bd29 Tryz.func29 rfl rfl rfl ?_
 obtain ⟨lv,sv,ov⟩:=hv.ln
 obtain ⟨lw,sw,ow⟩:=hw.ln
 have ha:=hv.2
 by_cases hab:((a.length:Nat):Int)=((b.length:Nat):Int)
 case neg =>
  have:¬a=b:=fun hh=>hab (by rw [hh])
  simp -dsimp (disch:=repeat first|rw [nxn]|rw [nxp]|omega) only [go_sem,lv,ov,lw,ow,hab]
  exact ⟨by simp [this],Fr.refl _⟩
 simp -dsimp (disch:=repeat first|rw [nxn]|rw [nxp]|omega) only [go_sem,lv,ov,lw,ow,hab]
 refine loopK_of (RnL.rounds (Q:=fun ex u=>u.d=[]∧Fr h u.h∧(ex=.exit 0∧a=b∨ex=.ret∧u.t.get 6=some (.bool false)∧¬a=b))
  (fun m u=>u.d=[]∧Fr h u.h∧u.t.get 0=some v∧u.t.get 1=some w∧u.t.get 2=some (.func (.func f) [] [])∧u.t.get 15=some v∧u.t.get 16=some (.int .i64 (a.length:Nat))∧∃i:Nat,u.t.get 17=some (.int .i64 (i:Nat))∧i≤a.length∧(a=b↔a.drop i=b.drop i)∧m=a.length-i) ?_ a.length ?_) ?_
 ·rintro m ⟨tt,g,d⟩ ⟨e2,e1,g0,g1,g2,g15,g16,i,g17,hi,hiff,rfl⟩
  dsimp only at e1 e2 g0 g1 g2 g15 g16 g17
  subst e2
  by_cases c4:(i:Int)<(a.length:Nat)
  ·have hil:i<a.length:=by omega
   have hib:i<b.length:=by omega
   obtain ⟨p,hp⟩:∃p,a[i]? = some p:=⟨_,List.getElem?_eq_getElem hil⟩
   obtain ⟨q,hq⟩:∃q,b[i]? = some q:=⟨_,List.getElem?_eq_getElem hib⟩
   obtain ⟨id,off,c,cs,o,tx,x1,rfl,hgi,hidl,hle,hE,ew⟩:=(hv.fr e1).el hp
   obtain ⟨id2,off2,cc,cs2,oo,tx2,x2,rfl,hgi2,hidl2,hle2,hE2,ew2⟩:=(hw.fr e1).el hq
   have o1:=ew.ln.2.2
   have o3:=ew2.ln.2.2
   have q1:=oneM o1
   have q3:=oneM o3
   rw [drop_at hp,drop_at hq] at hiff
   have n1:=fun o:AO=>(AH.get_new_ne (h:=g) (o:=o) (Nat.ne_of_lt hidl2)).trans hgi2
   have f1:Fr g ((g.new (.cells [.int .i64 0,.nilsl] true false)).put g.nx (.cells [.int .i64 p.own,x1] true false)):=(Fr.new _ _).put _ (Nat.le_refl _)
   have m1:((g.new (.cells [.int .i64 0,.nilsl] true false)).put g.nx (.cells [.int .i64 p.own,x1] true false)).get g.nx=some (.cells [.int .i64 p.own,x1] true false):=AH.get_put_eq rfl
   have m2:=(f1.get _ hidl2).trans hgi2
   have f2:Fr ((g.new (.cells [.int .i64 0,.nilsl] true false)).put g.nx (.cells [.int .i64 p.own,x1] true false)) ((((g.new (.cells [.int .i64 0,.nilsl] true false)).put g.nx (.cells [.int .i64 p.own,x1] true false)).new (.cells [.int .i64 0,.nilsl] true false)).put (g.nx+1) (.cells [.int .i64 q.own,x2] true false)):=(Fr.new _ _).put _ (Nat.le_refl _)
   have m3:=(f2.get g.nx (Nat.lt_succ_self _)).trans m1
   simp -dsimp (disch:=repeat first|rw [nxn]|rw [nxp]|omega) only [go_sem,c4,g0,g1,g2,g15,g16,g17,hil,hib,hgi,hle,hE,o1,o3,q1,q3,m1,m2,hle2,hE2,m3]
   refine callK_of (hf _ _ _ p q (e1.trans (f1.trans f2)) ⟨x1,rfl,ew.fr (f1.trans f2)⟩ ⟨x2,rfl,ew2.fr (f1.trans f2)⟩) ?_
   rintro r g6 ⟨rfl,f6⟩
   by_cases hpq:p=q
   ·have hd:decide (p=q)=true:=decide_eq_true hpq
    simp -dsimp (disch:=repeat first|rw [nxn]|rw [nxp]|omega) only [go_sem,hd,g0,g1,g2,g15,g16,g17]
    exact ⟨a.length-(i+1),by omega,trivial,(e1.trans (f1.trans f2)).trans f6,trivial,trivial,trivial,trivial,trivial,i+1,rfl,by omega,by rw [hiff];simp [hpq],rfl⟩
   ·have hd:decide (p=q)=false:=decide_eq_false hpq
    simp -dsimp (disch:=repeat first|rw [nxn]|rw [nxp]|omega) only [go_sem,hd,g0,g1,g2,g15,g16,g17]
    exact ⟨trivial,(e1.trans (f1.trans f2)).trans f6,.inr ⟨trivial,trivial,by rw [hiff];simp [hpq]⟩⟩
  ·have:i=a.length:=by omega
   subst this
   simp -dsimp (disch:=repeat first|rw [nxn]|rw [nxp]|omega) only [go_sem,c4,g0,g1,g2,g15,g16,g17]
   exact ⟨trivial,e1,.inl ⟨trivial,hiff.2 (by rw [List.drop_of_length_le (by omega),List.drop_of_length_le (by omega)])⟩⟩
 ·simp -dsimp (disch:=repeat first|rw [nxn]|rw [nxp]|omega) only [go_sem]
  exact ⟨trivial,Fr.refl _,trivial,trivial,trivial,trivial,by first | trivial | rw [hab],0,rfl,Nat.zero_le _,by simp,rfl⟩
 ·rintro ex ⟨tt,g,d⟩ ⟨rfl,e1,⟨rfl,hab'⟩ | ⟨rfl,t4,hab'⟩⟩
  ·dsimp only at e1
   simp -dsimp (disch:=repeat first|rw [nxn]|rw [nxp]|omega) only [go_sem]
   exact ⟨by simp [hab'],e1⟩
  ·dsimp only at e1 t4
   simp -dsimp (disch:=repeat first|rw [nxn]|rw [nxp]|omega) only [go_sem,t4]
   exact ⟨by simp [hab'],e1⟩
theorem eqInC (hS:Mp S) {K:Nat→Nat} {h:AH} {v w:AV} {a b:List Int} (hv:Iv K h v a) (hw:Iv K h w b):RnC Tryz.prog S 33 [v,w] h fun r h'=>r=.bool (decide (a=b))∧Fr h h':=by
 refine RnC.enter' Tryz.f33 _ 26 [.tmp 4] (hS.np _ _ _ (by simp)) bd33 Tryz.func33 rfl rfl rfl ?_
 obtain ⟨lv,sv,ov⟩:=hv.ln
 obtain ⟨lw,sw,ow⟩:=hw.ln
 have ha:=hv.2
 by_cases hab:((a.length:Nat):Int)=((b.length:Nat):Int)
 case neg =>
  have:¬a=b:=fun hh=>hab (by rw [hh])
  simp -dsimp (disch:=repeat first|rw [nxn]|rw [nxp]|omega) only [go_sem,lv,ov,lw,ow,hab]
  exact ⟨by simp [this],Fr.refl _⟩
 simp -dsimp (disch:=repeat first|rw [nxn]|rw [nxp]|omega) only [go_sem,lv,ov,lw,ow,hab]
 refine loopK_of (RnL.rounds (Q:=fun ex u=>u.d=[]∧Fr h u.h∧(ex=.exit 0∧a=b∨ex=.ret∧u.t.get 4=some (.bool false)∧¬a=b))
  (fun m u=>u.d=[]∧Fr h u.h∧u.t.get 0=some v∧u.t.get 1=some w∧u.t.get 12=some (.int .i64 (a.length:Nat))∧∃i:Nat,u.t.get 13=some (.int .i64 (i:Nat))∧i≤a.length∧(a=b↔a.drop i=b.drop i)∧m=a.length-i) ?_ a.length ?_) ?_
 ·rintro m ⟨tt,g,d⟩ ⟨e2,e1,g0,g1,g12,i,g13,hi,hiff,rfl⟩
  dsimp only at e1 e2 g0 g1 g12 g13
  subst e2
  by_cases c4:(i:Int)<(a.length:Nat)
  ·have hil:i<a.length:=by omega
   have hib:i<b.length:=by omega
   obtain ⟨p,hp⟩:∃p,a[i]? = some p:=⟨_,List.getElem?_eq_getElem hil⟩
   obtain ⟨q,hq⟩:∃q,b[i]? = some q:=⟨_,List.getElem?_eq_getElem hib⟩
   obtain ⟨id,off,c,cs,o,tx,rfl,hgi,hidl,_,hle,hx⟩:=Iv.at hv hp
   obtain ⟨id2,off2,cc,cs2,oo,tx2,rfl,hgi2,hidl2,_,hle2,hx2⟩:=Iv.at hw hq
   have hgx:=(e1.get id hidl).trans hgi
   have hgx2:=(e1.get id2 hidl2).trans hgi2
   have hn:=fun g=>neInt g 3 p q
   have hy:cs[off+i*1]? = some (.int .i64 p):=by rw [Nat.mul_one];exact hx
   have hy2:cs2[off2+i*1]? = some (.int .i64 q):=by rw [Nat.mul_one];exact hx2
   rw [drop_at hp,drop_at hq] at hiff
   simp -dsimp (disch:=repeat first|rw [nxn]|rw [nxp]|omega) only [go_sem,c4,g0,g1,g12,g13]
   refine syDraw.keepN 0 (fun _=>True) (by kernel_rfl) (by kernel_rfl) rfl ?_
   by_cases hpq:p=q
   ·have hd:decide (p=q)=true:=decide_eq_true hpq
    simp -dsimp (disch:=repeat first|rw [nxn]|rw [nxp]|omega) only [go_sem,hil,hib,hgx,hgx2,hle,hle2,hx,hx2,hy,hy2,hn,hd,g0,g1,g12,g13]
    exact ⟨a.length-(i+1),by omega,trivial,e1.more _ (by omega),trivial,trivial,trivial,i+1,rfl,by omega,by rw [hiff];simp [hpq],rfl⟩
   ·have hd:decide (p=q)=false:=decide_eq_false hpq
    simp -dsimp (disch:=repeat first|rw [nxn]|rw [nxp]|omega) only [go_sem,hil,hib,hgx,hgx2,hle,hle2,hx,hx2,hy,hy2,hn,hd,g0,g1,g12,g13]
    exact ⟨trivial,e1.more _ (by omega),.inr ⟨trivial,trivial,by rw [hiff];simp [hpq]⟩⟩
  ·have:i=a.length:=by omega
   subst this
   simp -dsimp (disch:=repeat first|rw [nxn]|rw [nxp]|omega) only [go_sem,c4,g0,g1,g12,g13]
   exact ⟨trivial,e1,.inl ⟨trivial,hiff.2 (by rw [List.drop_of_length_le (by omega),List.drop_of_length_le (by omega)])⟩⟩
 ·simp -dsimp (disch:=repeat first|rw [nxn]|rw [nxp]|omega) only [go_sem]
  exact ⟨trivial,Fr.refl _,trivial,trivial,by rw [hab],0,rfl,Nat.zero_le _,by simp,rfl⟩
 ·rintro ex ⟨tt,g,d⟩ ⟨rfl,e1,⟨rfl,hab'⟩ | ⟨rfl,t4,hab'⟩⟩
  ·dsimp only at e1
   simp -dsimp (disch:=repeat first|rw [nxn]|rw [nxp]|omega) only [go_sem]
   exact ⟨by simp [hab'],e1⟩
  ·dsimp only at e1 t4
   simp -dsimp (disch:=repeat first|rw [nxn]|rw [nxp]|omega) only [go_sem,t4]
   exact ⟨by simp [hab'],e1⟩
end
end Go.Proofs.YtihigekgnnoejaaGreatDoor.mdl
end