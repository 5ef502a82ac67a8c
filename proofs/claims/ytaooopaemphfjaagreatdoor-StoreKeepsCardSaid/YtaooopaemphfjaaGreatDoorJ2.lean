/- Texts joined: SRb, SRa, SRc, SPa. -/
import Derived.Test.YtaooopaemphfjaaGreatDoorJ1
import Derived.Test.YtaooopaemphfjaaGreatDoorAb6
import Derived.Test.YtaooopaemphfjaaGreatDoorAb7
set_option maxRecDepth 100000
set_option linter.unusedVariables false
set_option linter.unusedSimpArgs false
set_option maxHeartbeats 16000000
section
namespace Go.Proofs.YtaooopaemphfjaaGreatDoor.tbl
open Go Go.Abs Go.Abs.Rec Go.Proofs
theorem cellApp {n0 O:Nat} {g hh:AH} {ww:AV} {pre:KL (List Nat)} {k x:List Nat} {q j:Nat} (hg:g.nx=n0) (hO:O<n0) (j1:n0≤hh.nx) (j2:∀j,j<n0→j≠O→hh.get j=g.get j) (j3:hh.get O=some (.cells [ww] true false)) (j4:Ez 3 n0 hh ww ((pf pre).flatMap pc)) (hj:j<q) (hl:pre.length≤900000) :
  ∃w' h',evAppend Tryz.prog (({ tr:=hh.tr,nx:=hh.nx+q }:AH).put (hh.nx+j) (.cells [.str k,.str x,.bool false] true false)) #[22,22] ww (.sl (hh.nx+j) 0 1 3 (some 1))=some (.val w' h')∧oneA w'=true∧(w'=.nilsl∨∃id n c,w'=.sl id 0 n 3 c)∧h'.get O=some (.cells [ww] true false) ∧
   n0≤(h'.put O (.cells [w'] true false)).nx∧(∀j,j<n0→j≠O→(h'.put O (.cells [w'] true false)).get j=g.get j)∧Ez 3 n0 (h'.put O (.cells [w'] true false)) w' ((pf (pre++[(k,x)])).flatMap pc):=by
 subst hg
 have f9:Fr hh (({ tr:=hh.tr,nx:=hh.nx+q }:AH).put (hh.nx+j) (.cells [.str k,.str x,.bool false] true false)):=((Fr.refl hh).more _ (by omega)).put _ (by omega)
 obtain ⟨w',h',ha,hf',hz',ow'⟩:=appP (h0:={ tr:=(({ tr:=hh.tr,nx:=hh.nx+q }:AH).put (hh.nx+j) (.cells [.str k,.str x,.bool false] true false)).tr,nx:=g.nx }) (h:=({ tr:=hh.tr,nx:=hh.nx+q }:AH).put (hh.nx+j) (.cells [.str k,.str x,.bool false] true false)) (l:=pf pre) (m:=[(k,(x,false))]) (j4.fr f9) (ps1 (AH.get_put_eq rfl) (show hh.nx+j<hh.nx+q by omega)) ⟨by show g.nx≤hh.nx+q;omega,fun _ _=>rfl⟩ (by simp [pf];omega)
 have eX:∀i,i<g.nx→(({ tr:=hh.tr,nx:=hh.nx+q }:AH).put (hh.nx+j) (.cells [.str k,.str x,.bool false] true false)).get i=hh.get i:=fun i hi=>AH.get_put_ne (by omega)
 have hfn:g.nx≤h'.nx:=hf'.nx
 refine ⟨w',h',ha,ow',ezShape hz',(hf'.get _ hO).trans ((eX _ hO).trans j3),hfn,fun i hi hne=>(AH.get_put_ne hne).trans ((hf'.get i hi).trans ((eX i hi).trans (j2 i hi hne))),?_⟩
 have e:pf (pre++[(k,x)])=pf pre++[(k,(x,false))]:=by simp [pf]
 rw [e]
 exact ezPut hz' hO
section
variable {S : Sums}
theorem nodW (hS:Sw S) {K:Nat→Nat} {h0:AH} {O W:Nat} (hO:O<h0.nx) (hW:W<h0.nx) (hne:W≠O) (kO:K O≠0) (hw:h0.get W=some (.cells [.func (.func 36) [] [.ptr O 0,.ptr W 0]] true false)) :
  ∀(t:Tp) {v:AV} {pre:KL (List Nat)} {h:AH},TpA K h0 v t→(h0.nx≤h.nx∧(∀j,j<h0.nx→j≠O→h.get j=h0.get j)∧∃w,h.get O=some (.cells [w] true false)∧Ez 3 h0.nx h w ((pf pre).flatMap pc))→pre.length+t.size≤100000 →
   RnC Tryz.prog S 36 [v,.ptr O 0,.ptr W 0] h fun r h'=>h0.nx≤h'.nx∧(∀j,j<h0.nx→j≠O→h'.get j=h0.get j)∧∃w,h'.get O=some (.cells [w] true false)∧Ez 3 h0.nx h' w ((pf (pre++nodT t)).flatMap pc)
 | .nil,v,pre,h,hv,hj,hn=>by
  refine RnC.enter' Tryz.f36 _ 30 [] (hS.nb _ _ _ (by simp)) bd36 Tryz.func36 rfl rfl rfl ?_
  cases hv
  simp -dsimp (disch:=(repeat first | rw [nxn] | rw [nxp]);try omega) only [go_sem,neNn]
  rw [show nodT .nil=[] from rfl,List.append_nil]
  exact hj
 | .nd k x l r,v,pre,h,hv,⟨j1,j2,ww,j3,j4⟩,hn=>by
  refine RnC.enter' Tryz.f36 _ 30 [] (hS.nb _ _ _ (by simp)) bd36 Tryz.func36 rfl rfl rfl ?_
  obtain ⟨id,lv,rv,rfl,h2,h3,h4,h5,h6⟩:=hv
  have hsz:(Tp.nd k x l r).size=l.size+r.size+1:=rfl
  have ol:=h5.one.1
  have or_:=h6.one.1
  have idne:id≠O:=fun hh=>kO (hh▸h4)
  have hc:=(j2 id h3 idne).trans h2
  have ow:=(Ps.of j4).ln.2.2
  have bP:=bldP2 k x
  obtain ⟨w',h',ha,ow',shp,c3h,k1,k2,k3⟩:=cellApp (g:=h0) (k:=k) (x:=x) (q:=13) (j:=10) rfl hO j1 j2 j3 j4 (by decide) (by omega)
  simp -dsimp (disch:=(repeat first | rw [nxn] | rw [nxp]);try omega) only [go_sem,neNp]
  refine syDraw.keepN 0 (fun _=>True) (by kernel_rfl) (by kernel_rfl) rfl ?_
  have c5:(h'.put O (.cells [w'] true false)).get O=some (.cells [w'] true false):=AH.get_put_eq rfl
  rcases shp with rfl | ⟨sid,sn,sc,rfl⟩
  all_goals
   simp -dsimp (disch:=(repeat first | rw [nxn] | rw [nxp]);try omega) only [go_sem,hc,j3,bP,ow,ha,ow',c3h]
   generalize hg:h'.put O _=g5 at k1 k2 k3 c5 ⊢
   have hw5:=(k2 W hW hne).trans hw
   have hc5:=(k2 id h3 idne).trans h2
   have fx:Fr g5 { tr:=g5.tr,nx:=g5.nx+6 }:=(Fr.refl g5).more _ (by omega)
   refine syDraw.keepN 0 (fun _=>True) (by kernel_rfl) (by kernel_rfl) rfl ?_
   simp -dsimp (disch:=(repeat first | rw [nxn] | rw [nxp]);try omega) only [go_sem,hw5,hc5,ol]
   refine callK_of (nodW hS hO hW hne kO hw l h5 ⟨by show h0.nx≤g5.nx+6;omega,k2,_,c5,k3.fr fx⟩ (by simp;omega)) ?_
   rintro w6 g6 ⟨m1,m2,w7,m3,m4⟩
   have hw6:=(m2 W hW hne).trans hw
   have hc6:=(m2 id h3 idne).trans h2
   have fx6:Fr g6 { tr:=g6.tr,nx:=g6.nx+6 }:=(Fr.refl g6).more _ (by omega)
   try simp -dsimp (disch:=(repeat first | rw [nxn] | rw [nxp]);try omega) only [go_sem]
   refine syDraw.keepN 0 (fun _=>True) (by kernel_rfl) (by kernel_rfl) rfl ?_
   simp -dsimp (disch:=(repeat first | rw [nxn] | rw [nxp]);try omega) only [go_sem,hw6,hc6,or_]
   have hnl:=nod_len l
   refine callK_of (nodW hS hO hW hne kO hw r h6 ⟨by show h0.nx≤g6.nx+6;omega,m2,w7,m3,m4.fr fx6⟩ (by simp only [List.length_append,List.length_singleton];omega)) ?_
   rintro w8 g8 hj8
   try simp -dsimp (disch:=(repeat first | rw [nxn] | rw [nxp]);try omega) only [go_sem]
   have e:pre++nodT (.nd k x l r)=pre++[(k,x)]++nodT l++nodT r:=by
    show pre++(k,x)::(nodT l++nodT r)=_
    simp
   rw [e];exact hj8
theorem nodesC (hS:Sw S) {K:Nat→Nat} {h:AH} {tv:AV} {t:Tp} (htv:TpA K h tv t) (hts:t.size≤100000):RnC Tryz.prog S 13 [.agg [tv]] h fun r h'=>Ps h' r (pf (nodT t))∧Fr h h'∧∀id o n z c,r=.sl id o n z c→h.nx≤id:=by
 refine RnC.enter' Tryz.f13 _ 11 [.tmp 2] (hS.nb _ _ _ (by simp)) bd13 Tryz.func13 rfl rfl rfl ?_
 have ov:=htv.one.1
 have om:=ov
 unfold oneA at om
 simp -dsimp (disch:=(repeat first | rw [nxn] | rw [nxp]);try omega) only [go_sem,ov,om]
 generalize hg:((((h.new (.cells [tv] true false)).new (.cells [.nilsl] true false)).new (.cells [.nilfunc] true false)).put (h.nx+2) (.cells [.func (.func 36) [] [.ptr (h.nx+1) 0,.ptr (h.nx+2) 0]] true false))=g
 have ng:g.nx=h.nx+3:=by rw [←hg];rfl
 have fg:Fr h g:=by rw [←hg];exact (((Fr.new _ _).news _).news _).put _ (by omega)
 have c1:g.get (h.nx+1)=some (.cells [.nilsl] true false):=by rw [←hg];exact (AH.get_put_ne (by omega)).trans ((AH.get_new_ne (by simp)).trans (AH.get_new_eq rfl))
 have c2:g.get (h.nx+2)=some (.cells [.func (.func 36) [] [.ptr (h.nx+1) 0,.ptr (h.nx+2) 0]] true false):=by rw [←hg];exact AH.get_put_eq rfl
 have c0:g.get h.nx=some (.cells [tv] true false):=by rw [←hg];exact (AH.get_put_ne (by omega)).trans ((AH.get_new_ne (by simp <;> omega)).trans ((AH.get_new_ne (by simp)).trans (AH.get_new_eq rfl)))
 have ht0:TpA (fun j=>if j=h.nx+1 then 9 else K j) g tv t:=(htv.col fun j hj hk=>(if_neg (by omega)).trans hk).fr fg
 try simp -dsimp (disch:=(repeat first | rw [nxn] | rw [nxp]);try omega) only [go_sem,c0,c2,ov,om]
 refine callK_of (nodW hS (K:=fun j=>if j=h.nx+1 then 9 else K j) (O:=h.nx+1) (W:=h.nx+2) (by omega) (by omega) (by omega) (by simp) c2 t (pre:=[]) ht0 ⟨Nat.le_refl _,fun _ _ _=>rfl,.nilsl,c1,.inl ⟨rfl,rfl⟩⟩ (by simp;omega)) ?_
 rintro w g2 ⟨m1,m2,ww,m3,m4⟩
 rw [List.nil_append] at m4
 have ow:=(Ps.of m4).ln.2.2
 simp -dsimp (disch:=(repeat first | rw [nxn] | rw [nxp]);try omega) only [go_sem,m3,ow]
 exact ⟨Ps.of m4,⟨by omega,fun j hj=>(m2 j (by omega) (by omega)).trans (fg.get j hj)⟩,fun id o n z c hh=>by have:=ezGe m4 hh;omega⟩
end
section
variable {S : Sums}
end
section
variable {S : Sums}
def wM (M:Nat):KL (List Nat×Bool)→Nat
 | []=>0
 | p::r=>min p.1.length (M+1)+min p.2.1.length (M+1)+wM M r
theorem wM_snoc (M:Nat) (l:KL (List Nat×Bool)) (p:Pr):wM M (l++[p])=wM M l+(min p.1.length (M+1)+min p.2.1.length (M+1)):=by
 induction l with
 | nil=>simp [wM]
 | cons b r ih=>simp only [List.cons_append,wM,ih];omega
theorem lightS (hS:Sw S) {h:AH} {v:AV} {l:KL (List Nat×Bool)} (hv:Ps h v l) {N M:Nat} (hN:N≤1000) (hM:M≤10000):RnC Tryz.prog S 7 [v,.int .i64 (N:Nat),.int .i64 (M:Nat)] h fun r h'=>Fr h h'∧∃b:Bool,r=.bool b∧(b=true→l.length≤N∧wM M l≤M):=by
 refine RnC.enter' Tryz.f7 _ 55 [.tmp 6] (hS.nb _ _ _ (by simp)) bd7 Tryz.func7 rfl rfl rfl ?_
 obtain ⟨lv,sv,ov⟩:=hv.ln
 have ls:∀g s,evLen Tryz.prog g #[9] (.str s)=some (.int .i64 ((s.length:Nat):Int)):=fun g s=>by simp [evLen,Tryz.underlying9]
 simp -dsimp (disch:=(repeat first | rw [nxn] | rw [nxp]);try omega) only [go_sem,lv,ov]
 refine loopK_of (RnL.rounds (Q:=fun ex u=>ex=.exit 0∧u.d=[]∧Fr h u.h∧u.t.get 0=some v∧u.t.get 1=some (.int .i64 (N:Nat))∧u.t.get 2=some (.int .i64 (M:Nat))∧∃i:Nat,u.t.get 7=some (.int .i64 (wM M (l.take i):Nat))∧i≤l.length∧(l.length≤N→wM M (l.take i)≤M→i=l.length))
  (fun m u=>u.d=[]∧Fr h u.h∧u.t.get 0=some v∧u.t.get 1=some (.int .i64 (N:Nat))∧u.t.get 2=some (.int .i64 (M:Nat))∧∃i:Nat,u.t.get 8=some (.int .i64 (i:Nat))∧u.t.get 7=some (.int .i64 (wM M (l.take i):Nat))∧i≤l.length∧wM M (l.take i)≤i*20004∧m=l.length-i) ?_ l.length ?_) ?_
 ·rintro m ⟨tt,g,d⟩ ⟨e2,e1,g0,g1,g2,i,g8,g7,hi,hw,rfl⟩
  dsimp only at e1 e2 g0 g1 g2 g7 g8
  subst e2
  by_cases c1:(i:Int)<(l.length:Nat)
  ·by_cases c2:(i:Int)≤(N:Nat)
   ·by_cases c3:((wM M (l.take i):Nat):Int)≤((M:Nat):Int)
    ·have hil:i<l.length:=by omega
     obtain ⟨p,hp⟩:∃p,l[i]? = some p:=⟨_,List.getElem?_eq_getElem hil⟩
     obtain ⟨id,off,c,cs,o,tx,rfl,hgi,hidl,hle,hx,x0,x1,x2⟩:=Ps.at hv hp
     have hgx:=(e1.get id hidl).trans hgi
     simp -dsimp (disch:=(repeat first | rw [nxn] | rw [nxp]);try omega) only [go_sem,lv,c1,c2,c3,g0,g1,g2,g7,g8]
     refine syDraw.keepN 0 (fun _=>True) (by kernel_rfl) (by kernel_rfl) rfl ?_
     simp -dsimp (disch:=(repeat first | rw [nxn] | rw [nxp]);try omega) only [go_sem,lv,c1,c2,c3,g0,g1,g2,g7,g8,hil,hgx,x0,x1,ls]
     have hws:wM M (l.take (i+1))=wM M (l.take i)+(min p.1.length (M+1)+min p.2.1.length (M+1)):=by
      rw [List.take_add_one,hp]
      exact wM_snoc _ _ _
     refine ⟨l.length-(i+1),by omega,trivial,e1.more _ (by omega),trivial,trivial,trivial,i+1,rfl,?_,by omega,by omega,rfl⟩
     congr 1
     rw [hws]
     omega
    ·simp -dsimp (disch:=(repeat first | rw [nxn] | rw [nxp]);try omega) only [go_sem,lv,c1,c2,c3,g0,g1,g2,g7,g8]
     exact ⟨trivial,trivial,e1,trivial,trivial,trivial,i,rfl,hi,fun _ hh=>by omega⟩
   ·simp -dsimp (disch:=(repeat first | rw [nxn] | rw [nxp]);try omega) only [go_sem,lv,c1,c2,g0,g1,g2,g7,g8]
    exact ⟨trivial,trivial,e1,trivial,trivial,trivial,i,rfl,hi,fun hh=>by omega⟩
  ·simp -dsimp (disch:=(repeat first | rw [nxn] | rw [nxp]);try omega) only [go_sem,lv,c1,g0,g1,g2,g7,g8]
   exact ⟨trivial,trivial,e1,trivial,trivial,trivial,i,rfl,hi,fun _ _=>by omega⟩
 ·simp -dsimp (disch:=(repeat first | rw [nxn] | rw [nxp]);try omega) only [go_sem]
  exact ⟨trivial,Fr.refl _,trivial,trivial,trivial,0,rfl,rfl,Nat.zero_le _,Nat.zero_le _,rfl⟩
 ·rintro ex ⟨tt,g,d⟩ ⟨rfl,rfl,e1,g0,g1,g2,i,g7,hi,hfin⟩
  dsimp only at e1 g0 g1 g2 g7
  by_cases c1:((l.length:Nat):Int)≤((N:Nat):Int)
  ·by_cases c2:((wM M (l.take i):Nat):Int)≤((M:Nat):Int)
   ·simp -dsimp (disch:=(repeat first | rw [nxn] | rw [nxp]);try omega) only [go_sem,lv,c1,c2,g0,g1,g2,g7]
    have:=hfin (by omega) (by omega)
    subst this
    rw [List.take_length] at c2
    exact ⟨e1,true,rfl,fun _=>⟨by omega,by omega⟩⟩
   ·simp -dsimp (disch:=(repeat first | rw [nxn] | rw [nxp]);try omega) only [go_sem,lv,c1,c2,g0,g1,g2,g7]
    exact ⟨e1,false,rfl,fun hh=>by cases hh⟩
  ·simp -dsimp (disch:=(repeat first | rw [nxn] | rw [nxp]);try omega) only [go_sem,lv,c1,g0,g1,g2,g7]
   exact ⟨e1,false,rfl,fun hh=>by cases hh⟩
end
open Go.Abs.Wal Go.Proofs.YtaooopaemphfjaaGreatDoor.tre
theorem wM_eq {M:Nat}:∀ {l:KL (List Nat×Bool)},wM M l≤M→wtf lenP l≤M∧wtf lenP l=wM M l
 | [],_=>⟨Nat.zero_le _,rfl⟩
 | p::r,h=>by
  have e:wM M (p::r)=min p.1.length (M+1)+min p.2.1.length (M+1)+wM M r:=rfl
  rw [e] at h ⊢
  obtain ⟨i1,i2⟩:=wM_eq (M:=M) (l:=r) (by omega)
  have e2:wtf lenP (p::r)=p.1.length+p.2.1.length+wtf lenP r:=rfl
  rw [e2]
  omega
structure D2 (h0 h:AH) (C D:Nat→Nat):Prop where
 dj:Dj C D
 tc:∀j,h.nx≤j→C j=0
 td:∀j,h.nx≤j→D j=0
 fr:Fr h0 h
 oc:∀j,j<h0.nx→C j=0
 od:∀j,j<h0.nx→D j=0
theorem D2.gr {h0 h:AH} {C D C':Nat→Nat} (d:D2 h0 h C D) {h':AH} (g:tre.Gr C h C' h') (t:∀j,h'.nx≤j→C' j=0):D2 h0 h' C' D :=
 let ⟨f,o⟩:=tre.Gr.fr g d.fr d.oc
 ⟨d.dj.gr g d.td,t,fun j hj=>d.td j (Nat.le_trans g.nx hj),f,o,d.od⟩
theorem D2.more {h0 h:AH} {C D:Nat→Nat} (d:D2 h0 h C D) {h':AH} (f:Fr h h'):D2 h0 h' C D:=⟨d.dj,fun j hj=>d.tc j (Nat.le_trans f.nx hj),fun j hj=>d.td j (Nat.le_trans f.nx hj),d.fr.trans f,d.oc,d.od⟩
theorem D2.top {h0 h:AH} {C D:Nat→Nat} (d:D2 h0 h C D):∀j,h.nx≤j→C j+D j=0:=fun j hj=>by rw [d.tc j hj,d.td j hj]
theorem tp2 {C' C D:Nat→Nat} {h:AH} {v:AV} {t:Tp} (ht:TpA (fun j=>C' j+(C j+D j)) h v t):TpA (fun j=>C' j+D j) h v t:=ht.col fun j _ hk=>by
 have hk':C' j+(C j+D j)=0:=hk
 show C' j+D j=0
 omega
theorem fit_rec {b:KL (List Nat×Bool)} (h:Gd b):Fit (recE (lastD b)) :=
 ⟨by have:=h.len;have:=h.n;have:=h.w;omega,h.by,h.fit,fun l hl=>by rw [h.read] at hl;cases hl⟩
section
variable {S : Sums}
end
end Go.Proofs.YtaooopaemphfjaaGreatDoor.tbl
end