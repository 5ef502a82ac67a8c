/- Texts joined: SRb, SRa, SRc, SPa. -/
import Derived.Test.YtaooopaemphfjaaGreatDoorJ1
import Derived.Test.YtaooopaemphfjaaGreatDoorAb8

section
namespace Go.Proofs.YtaooopaemphfjaaGreatDoor.tbl
open Go Go.Abs Go.Abs.Rec Go.Proofs
set_option maxRecDepth 100000
set_option linter.unusedVariables false
set_option linter.unusedSimpArgs false
theorem cellApp {n0 O:Nat} {g hh:AH} {ww:AV} {pre:KL (List Nat)} {k x:List Nat} {q j:Nat} (hg:g.nx=n0) (hO:O<n0) (j1:n0≤hh.nx) (j2:∀j,j<n0→j≠O→hh.get j=g.get j) (j3:hh.get O=some (.cells [ww] true false)) (j4:Ez 3 n0 hh ww ((pf pre).flatMap pc)) (hj:j<q) (hl:pre.length≤900000) :
  ∃w' h',evAppend Tryz.prog (({ tr:=hh.tr,nx:=hh.nx+q }:AH).put (hh.nx+j) (.cells [.str k,.str x,.bool false] true false)) #[22,22] ww (.sl (hh.nx+j) 0 1 3 (some 1))=some (.val w' h')∧oneA w'=true∧(w'=.nilsl∨∃id n c,w'=.sl id 0 n 3 c)∧h'.get O=some (.cells [ww] true false) ∧
   n0≤(h'.put O (.cells [w'] true false)).nx∧(∀j,j<n0→j≠O→(h'.put O (.cells [w'] true false)).get j=g.get j)∧Ez 3 n0 (h'.put O (.cells [w'] true false)) w' ((pf (pre++[(k,x)])).flatMap pc):=by
 subst hg
 have f9:Fr hh (({ tr:=hh.tr,nx:=hh.nx+q }:AH).put (hh.nx+j) (.cells [.str k,.str x,.bool false] true false)):=((Fr.refl hh).more _ (by omega)).put _ (by omega)
 obtain ⟨w',h',ha,hf',hz',ow'⟩:=appP (h0:={ tr:=(({ tr:=hh.tr,nx:=hh.nx+q }:AH).put (hh.nx+j) (.cells [.str k,.str x,.bool false] true false)).tr,nx:=g.nx }) (h:=({ tr:=hh.tr,nx:=hh.nx+q }:AH).put (hh.nx+j) (.cells [.str k,.str x,.bool false] true false)) (l:=pf pre) (m:=[(k,(x,false))]) (j4.fr f9) (ps1 (AH.get_put_eq rfl) (show hh.nx+j<hh.nx+q by omega)) ⟨by show g.nx≤hh.nx+q;omega,fun _ _=>rfl⟩ (by simp [pf];omega)
 have eX:∀i,i<g.nx→(({ tr:=hh.tr,nx:=hh.nx+q }:AH).put (hh.nx+j) (.cells [.str k,.str x,.bool false] true false)).get i=hh.get i:=fun i hi=>AH.get_put_ne (by omega)
 have hfn:g.nx≤h'.nx:=hf'.nx
 refine ⟨w',h',ha,ow',ezShape hz',(hf'.get _ hO).trans ((eX _ hO).trans j3),hfn,fun i hi hne=>(AH.get_put_ne hne).trans ((hf'.get i hi).trans ((eX i hi).trans (j2 i hi hne))),?_⟩
 have e:pf (pre++[(k,x)])=pf pre++[(k,(x,false))]:=by simp [pf]
 rw [e]
 exact ezPut hz' hO
section
variable {S : Sums}
set_option maxHeartbeats 16000000 in
theorem nodW (hS:Sw S) {K:Nat→Nat} {h0:AH} {O W:Nat} (hO:O<h0.nx) (hW:W<h0.nx) (hne:W≠O) (kO:K O≠0) (hw:h0.get W=some (.cells [.func (.func 36) [] [.ptr O 0,.ptr W 0]] true false)) :
  ∀(t:Tp) {v:AV} {pre:KL (List Nat)} {h:AH},TpA K h0 v t→(h0.nx≤h.nx∧(∀j,j<h0.nx→j≠O→h.get j=h0.get j)∧∃w,h.get O=some (.cells [w] true false)∧Ez 3 h0.nx h w ((pf pre).flatMap pc))→pre.length+t.size≤100000 →
   RnC Tryz.prog S 36 [v,.ptr O 0,.ptr W 0] h fun r h'=>h0.nx≤h'.nx∧(∀j,j<h0.nx→j≠O→h'.get j=h0.get j)∧∃w,h'.get O=some (.cells [w] true false)∧Ez 3 h0.nx h' w ((pf (pre++nodT t)).flatMap pc)
 | .nil,v,pre,h,hv,hj,hn=>by
  refine RnC.enter' Tryz.f36 _ 30 [] (hS.nb _ _ _ (by simp)) bd36 Tryz.func36 rfl rfl rfl ?_
  cases hv
  simp (maxSteps:=1000000) -dsimp (disch:=(repeat first | rw [nxn] | rw [nxp]);try omega) only [go_sem,neNn]
  rw [show nodT .nil=[] from rfl,List.append_nil]
  exact hj
 | .nd k x l r,v,pre,h,hv,⟨j1,j2,ww,j3,j4⟩,hn=>by
  refine RnC.enter' Tryz.f36 _ 30 [] (hS.nb _ _ _ (by simp)) bd36 Tryz.func36 rfl rfl rfl ?_
  obtain ⟨id,lv,rv,rfl,h2,h3,h4,h5,h6⟩:=hv
  have hsz:(Tp.nd k x l r).size=l.size+r.size+1:=rfl
  have ol:=h5.one.1
  have or_:=h6.one.1
  have idne:id≠O:=fun hh=>kO (hh▸h4)
  have hc:=(j2 id h3 idne).trans h2
  have ow:=(Ps.of j4).ln.2.2
  have bP:=bldP2 k x
  obtain ⟨w',h',ha,ow',shp,c3h,k1,k2,k3⟩:=cellApp (g:=h0) (k:=k) (x:=x) (q:=13) (j:=10) rfl hO j1 j2 j3 j4 (by decide) (by omega)
  simp (maxSteps:=1000000) -dsimp (disch:=(repeat first | rw [nxn] | rw [nxp]);try omega) only [go_sem,neNp]
  refine syDraw.keepN 0 (fun _=>True) (by kernel_rfl) (by kernel_rfl) rfl ?_
  have c5:(h'.put O (.cells [w'] true false)).get O=some (.cells [w'] true false):=AH.get_put_eq rfl
  rcases shp with rfl | ⟨sid,sn,sc,rfl⟩
  all_goals
   simp (maxSteps:=1000000) -dsimp (disch:=(repeat first | rw [nxn] | rw [nxp]);try omega) only [go_sem,hc,j3,bP,ow,ha,ow',c3h]
   generalize hg:h'.put O _=g5 at k1 k2 k3 c5 ⊢
   have hw5:=(k2 W hW hne).trans hw
   have hc5:=(k2 id h3 idne).trans h2
   have fx:Fr g5 { tr:=g5.tr,nx:=g5.nx+6 }:=(Fr.refl g5).more _ (by omega)
   refine syDraw.keepN 0 (fun _=>True) (by kernel_rfl) (by kernel_rfl) rfl ?_
   simp (maxSteps:=1000000) -dsimp (disch:=(repeat first | rw [nxn] | rw [nxp]);try omega) only [go_sem,hw5,hc5,ol]
   refine callK_of (nodW hS hO hW hne kO hw l h5 ⟨by show h0.nx≤g5.nx+6;omega,k2,_,c5,k3.fr fx⟩ (by simp;omega)) ?_
   rintro w6 g6 ⟨m1,m2,w7,m3,m4⟩
   have hw6:=(m2 W hW hne).trans hw
   have hc6:=(m2 id h3 idne).trans h2
   have fx6:Fr g6 { tr:=g6.tr,nx:=g6.nx+6 }:=(Fr.refl g6).more _ (by omega)
   try simp (maxSteps:=1000000) -dsimp (disch:=(repeat first | rw [nxn] | rw [nxp]);try omega) only [go_sem]
   refine syDraw.keepN 0 (fun _=>True) (by kernel_rfl) (by kernel_rfl) rfl ?_
   simp (maxSteps:=1000000) -dsimp (disch:=(repeat first | rw [nxn] | rw [nxp]);try omega) only [go_sem,hw6,hc6,or_]
   have hnl:=nod_len l
   refine callK_of (nodW hS hO hW hne kO hw r h6 ⟨by show h0.nx≤g6.nx+6;omega,m2,w7,m3,m4.fr fx6⟩ (by simp only [List.length_append,List.length_singleton];omega)) ?_
   rintro w8 g8 hj8
   try simp (maxSteps:=1000000) -dsimp (disch:=(repeat first | rw [nxn] | rw [nxp]);try omega) only [go_sem]
   have e:pre++nodT (.nd k x l r)=pre++[(k,x)]++nodT l++nodT r:=by
    show pre++(k,x)::(nodT l++nodT r)=_
    simp
   rw [e];exact hj8
set_option maxHeartbeats 8000000 in
theorem nodesC (hS:Sw S) {K:Nat→Nat} {h:AH} {tv:AV} {t:Tp} (htv:TpA K h tv t) (hts:t.size≤100000):RnC Tryz.prog S 13 [.agg [tv]] h fun r h'=>Ps h' r (pf (nodT t))∧Fr h h'∧∀id o n z c,r=.sl id o n z c→h.nx≤id:=by
 refine RnC.enter' Tryz.f13 _ 11 [.tmp 2] (hS.nb _ _ _ (by simp)) bd13 Tryz.func13 rfl rfl rfl ?_
 have ov:=htv.one.1
 have om:=ov
 unfold oneA at om
 simp (maxSteps:=1000000) -dsimp (disch:=(repeat first | rw [nxn] | rw [nxp]);try omega) only [go_sem,ov,om]
 generalize hg:((((h.new (.cells [tv] true false)).new (.cells [.nilsl] true false)).new (.cells [.nilfunc] true false)).put (h.nx+2) (.cells [.func (.func 36) [] [.ptr (h.nx+1) 0,.ptr (h.nx+2) 0]] true false))=g
 have ng:g.nx=h.nx+3:=by rw [←hg];rfl
 have fg:Fr h g:=by rw [←hg];exact (((Fr.new _ _).news _).news _).put _ (by omega)
 have c1:g.get (h.nx+1)=some (.cells [.nilsl] true false):=by rw [←hg];exact (AH.get_put_ne (by omega)).trans ((AH.get_new_ne (by simp)).trans (AH.get_new_eq rfl))
 have c2:g.get (h.nx+2)=some (.cells [.func (.func 36) [] [.ptr (h.nx+1) 0,.ptr (h.nx+2) 0]] true false):=by rw [←hg];exact AH.get_put_eq rfl
 have c0:g.get h.nx=some (.cells [tv] true false):=by rw [←hg];exact (AH.get_put_ne (by omega)).trans ((AH.get_new_ne (by simp <;> omega)).trans ((AH.get_new_ne (by simp)).trans (AH.get_new_eq rfl)))
 have ht0:TpA (fun j=>if j=h.nx+1 then 9 else K j) g tv t:=(htv.col fun j hj hk=>(if_neg (by omega)).trans hk).fr fg
 try simp (maxSteps:=1000000) -dsimp (disch:=(repeat first | rw [nxn] | rw [nxp]);try omega) only [go_sem,c0,c2,ov,om]
 refine callK_of (nodW hS (K:=fun j=>if j=h.nx+1 then 9 else K j) (O:=h.nx+1) (W:=h.nx+2) (by omega) (by omega) (by omega) (by simp) c2 t (pre:=[]) ht0 ⟨Nat.le_refl _,fun _ _ _=>rfl,.nilsl,c1,.inl ⟨rfl,rfl⟩⟩ (by simp;omega)) ?_
 rintro w g2 ⟨m1,m2,ww,m3,m4⟩
 rw [List.nil_append] at m4
 have ow:=(Ps.of m4).ln.2.2
 simp (maxSteps:=1000000) -dsimp (disch:=(repeat first | rw [nxn] | rw [nxp]);try omega) only [go_sem,m3,ow]
 exact ⟨Ps.of m4,⟨by omega,fun j hj=>(m2 j (by omega) (by omega)).trans (fg.get j hj)⟩,fun id o n z c hh=>by have:=ezGe m4 hh;omega⟩
end
end Go.Proofs.YtaooopaemphfjaaGreatDoor.tbl
end

section
namespace Go.Proofs.YtaooopaemphfjaaGreatDoor.tbl
open Go Go.Abs Go.Abs.Rec Go.Proofs
set_option maxRecDepth 100000
set_option linter.unusedVariables false
set_option linter.unusedSimpArgs false
def eachR (go:KL (List Nat)→List Nat→Bool):Tp→List Nat→KL (List Nat)→Bool×KL (List Nat)
 | .nil,_,pre=>(true,pre)
 | .nd k v l r,fr,pre =>
  if lessA k fr=true then eachR go r fr pre else
  if (eachR go l fr pre).1=false then (false,(eachR go l fr pre).2) else
  if go (eachR go l fr pre).2 k=false then (false,(eachR go l fr pre).2) else eachR go r [] ((eachR go l fr pre).2++[(k,v)])
def goR (to:List Nat) (most:Int) (pre:KL (List Nat)) (k:List Nat):Bool:=!decide (most≤((pre.length:Nat):Int))&&(decide (to=[])||lessA k to)
section
variable {S : Sums}
end
end Go.Proofs.YtaooopaemphfjaaGreatDoor.tbl
end

section
namespace Go.Proofs.YtaooopaemphfjaaGreatDoor.tbl
open Go Go.Abs Go.Abs.Rec Go.Proofs
set_option maxRecDepth 100000
set_option linter.unusedVariables false
set_option linter.unusedSimpArgs false
theorem neP (h:AH) (k x:List Nat) (g:Bool):binA Tryz.prog h .neq 58 (.agg [.str k,.str x,.bool g]) (.agg [.str k,.str x,.bool g])=some (.bool false):=by
 have h1:eqOk Tryz.prog 58 (.agg [.str k,.str x,.bool g]) (.agg [.str k,.str x,.bool g])=true:=by
  show (!(Tryz.prog.eqGuardType Tryz.prog.depth 58))=true
  kernel_rfl
 have hl:∀b:List Nat,eqL b b=true:=fun b=>by rw [eqL_eq];simp
 have hsi:Tryz.prog.stoodInHeld 58=false:=by kernel_rfl
 have hs:∀d (b:List Nat),eqA Tryz.prog h (d+1) 9 (.str b) (.str b)=some true:=fun d b=>by
  unfold eqA
  rw [Tryz.underlying9]
  simp only [hl]
 have hi:∀d (b:Bool),eqA Tryz.prog h (d+1) 4 (.bool b) (.bool b)=some true:=fun d b=>by
  unfold eqA
  rw [Tryz.underlying4]
  simp
 have h2:eqA Tryz.prog h (11+1) 58 (.agg [.str k,.str x,.bool g]) (.agg [.str k,.str x,.bool g])=some true:=by
  unfold eqA
  rw [Tryz.underlying58]
  simp only [hsi]
  simp [eqFs,partA,aggT,tz9,tz4,hs 10,hi 10,Tryz.underlying9,Tryz.underlying4]
 show (if eqOk Tryz.prog 58 (.agg [.str k,.str x,.bool g]) (.agg [.str k,.str x,.bool g])=true then (eqA Tryz.prog h (11+1) 58 (.agg [.str k,.str x,.bool g]) (.agg [.str k,.str x,.bool g])).map fun x=>AV.bool !x else none)=_
 rw [if_pos h1,h2]
 rfl
section
variable {S : Sums}
set_option maxHeartbeats 8000000 in
theorem pairsS (hS:Sw S) {h:AH} {v w:AV} {l:KL (List Nat×Bool)} (hv:Ps h v l) (hw:Ps h w l) (hl:l.length≤1000000):RnC Tryz.prog S 11 [v,w] h fun r h'=>r=.bool true∧Fr h h':=by
 refine RnC.enter' Tryz.f11 _ 26 [.tmp 4] (hS.nb _ _ _ (by simp)) bd11 Tryz.func11 rfl rfl rfl ?_
 obtain ⟨lv,sv,ov⟩:=hv.ln
 obtain ⟨lw,sw,ow⟩:=hw.ln
 simp (maxSteps:=1000000) -dsimp (disch:=(repeat first | rw [nxn] | rw [nxp]);try omega) only [go_sem,lv,ov,lw,ow]
 refine loopK_of (RnL.rounds (Q:=fun ex u=>ex=.exit 0∧u.d=[]∧Fr h u.h)
  (fun m u=>u.d=[]∧Fr h u.h∧u.t.get 0=some v∧u.t.get 1=some w∧∃i:Nat,u.t.get 5=some (.int .i64 (i:Nat))∧i≤l.length∧m=l.length-i) ?_ l.length ?_) ?_
 ·rintro m ⟨tt,g,d⟩ ⟨e2,e1,g0,g1,i,g5,hi,rfl⟩
  dsimp only at e1 e2 g0 g1 g5
  subst e2
  by_cases c4:(i:Int)<(l.length:Nat)
  ·have hil:i<l.length:=by omega
   obtain ⟨p,hp⟩:∃p,l[i]? = some p:=⟨_,List.getElem?_eq_getElem hil⟩
   obtain ⟨id,off,c,cs,o,tx,rfl,hgi,hidl,hle,hx,_⟩:=Ps.at hv hp
   obtain ⟨id2,off2,cc,cs2,oo,tx2,rfl,hgi2,hidl2,hle2,hx2,_⟩:=Ps.at hw hp
   have hgx:=(e1.get id hidl).trans hgi
   have hgx2:=(e1.get id2 hidl2).trans hgi2
   have nP:=fun g=>neP g p.1 p.2.1 p.2.2
   simp (maxSteps:=1000000) -dsimp (disch:=(repeat first | rw [nxn] | rw [nxp]);try omega) only [go_sem,lv,c4,g0,g1,g5]
   refine syDraw.keepN 0 (fun _=>True) (by kernel_rfl) (by kernel_rfl) rfl ?_
   simp (maxSteps:=1000000) -dsimp (disch:=(repeat first | rw [nxn] | rw [nxp]);try omega) only [go_sem,lv,c4,hil,hgx,hgx2,hle,hle2,hx,hx2,nP,g0,g1,g5]
   exact ⟨l.length-(i+1),by omega,trivial,e1.more _ (by omega),trivial,trivial,i+1,rfl,by omega,rfl⟩
  ·have:i=l.length:=by omega
   subst this
   simp (maxSteps:=1000000) -dsimp (disch:=(repeat first | rw [nxn] | rw [nxp]);try omega) only [go_sem,lv,c4,g0,g1,g5]
   exact ⟨trivial,trivial,e1⟩
 ·simp (maxSteps:=1000000) -dsimp (disch:=(repeat first | rw [nxn] | rw [nxp]);try omega) only [go_sem]
  exact ⟨trivial,Fr.refl _,trivial,trivial,0,rfl,Nat.zero_le _,rfl⟩
 ·rintro ex ⟨tt,g,d⟩ ⟨rfl,rfl,e1⟩
  dsimp only at e1
  simp (maxSteps:=1000000) -dsimp (disch:=(repeat first | rw [nxn] | rw [nxp]);try omega) only [go_sem]
  first | exact e1 | exact ⟨trivial,e1⟩
def wM (M:Nat):KL (List Nat×Bool)→Nat
 | []=>0
 | p::r=>min p.1.length (M+1)+min p.2.1.length (M+1)+wM M r
theorem wM_snoc (M:Nat) (l:KL (List Nat×Bool)) (p:Pr):wM M (l++[p])=wM M l+(min p.1.length (M+1)+min p.2.1.length (M+1)):=by
 induction l with
 | nil=>simp [wM]
 | cons b r ih=>simp only [List.cons_append,wM,ih];omega
set_option maxHeartbeats 8000000 in
theorem lightS (hS:Sw S) {h:AH} {v:AV} {l:KL (List Nat×Bool)} (hv:Ps h v l) {N M:Nat} (hN:N≤1000) (hM:M≤10000):RnC Tryz.prog S 7 [v,.int .i64 (N:Nat),.int .i64 (M:Nat)] h fun r h'=>Fr h h'∧∃b:Bool,r=.bool b∧(b=true→l.length≤N∧wM M l≤M):=by
 refine RnC.enter' Tryz.f7 _ 55 [.tmp 6] (hS.nb _ _ _ (by simp)) bd7 Tryz.func7 rfl rfl rfl ?_
 obtain ⟨lv,sv,ov⟩:=hv.ln
 have ls:∀g s,evLen Tryz.prog g #[9] (.str s)=some (.int .i64 ((s.length:Nat):Int)):=fun g s=>by simp [evLen,Tryz.underlying9]
 simp (maxSteps:=1000000) -dsimp (disch:=(repeat first | rw [nxn] | rw [nxp]);try omega) only [go_sem,lv,ov]
 refine loopK_of (RnL.rounds (Q:=fun ex u=>ex=.exit 0∧u.d=[]∧Fr h u.h∧u.t.get 0=some v∧u.t.get 1=some (.int .i64 (N:Nat))∧u.t.get 2=some (.int .i64 (M:Nat))∧∃i:Nat,u.t.get 7=some (.int .i64 (wM M (l.take i):Nat))∧i≤l.length∧(l.length≤N→wM M (l.take i)≤M→i=l.length))
  (fun m u=>u.d=[]∧Fr h u.h∧u.t.get 0=some v∧u.t.get 1=some (.int .i64 (N:Nat))∧u.t.get 2=some (.int .i64 (M:Nat))∧∃i:Nat,u.t.get 8=some (.int .i64 (i:Nat))∧u.t.get 7=some (.int .i64 (wM M (l.take i):Nat))∧i≤l.length∧wM M (l.take i)≤i*20004∧m=l.length-i) ?_ l.length ?_) ?_
 ·rintro m ⟨tt,g,d⟩ ⟨e2,e1,g0,g1,g2,i,g8,g7,hi,hw,rfl⟩
  dsimp only at e1 e2 g0 g1 g2 g7 g8
  subst e2
  by_cases c1:(i:Int)<(l.length:Nat)
  ·by_cases c2:(i:Int)≤(N:Nat)
   ·by_cases c3:((wM M (l.take i):Nat):Int)≤((M:Nat):Int)
    ·have hil:i<l.length:=by omega
     obtain ⟨p,hp⟩:∃p,l[i]? = some p:=⟨_,List.getElem?_eq_getElem hil⟩
     obtain ⟨id,off,c,cs,o,tx,rfl,hgi,hidl,hle,hx,x0,x1,x2⟩:=Ps.at hv hp
     have hgx:=(e1.get id hidl).trans hgi
     simp (maxSteps:=1000000) -dsimp (disch:=(repeat first | rw [nxn] | rw [nxp]);try omega) only [go_sem,lv,c1,c2,c3,g0,g1,g2,g7,g8]
     refine syDraw.keepN 0 (fun _=>True) (by kernel_rfl) (by kernel_rfl) rfl ?_
     simp (maxSteps:=1000000) -dsimp (disch:=(repeat first | rw [nxn] | rw [nxp]);try omega) only [go_sem,lv,c1,c2,c3,g0,g1,g2,g7,g8,hil,hgx,x0,x1,ls]
     have hws:wM M (l.take (i+1))=wM M (l.take i)+(min p.1.length (M+1)+min p.2.1.length (M+1)):=by
      rw [List.take_add_one,hp]
      exact wM_snoc _ _ _
     refine ⟨l.length-(i+1),by omega,trivial,e1.more _ (by omega),trivial,trivial,trivial,i+1,rfl,?_,by omega,by omega,rfl⟩
     congr 1
     rw [hws]
     omega
    ·simp (maxSteps:=1000000) -dsimp (disch:=(repeat first | rw [nxn] | rw [nxp]);try omega) only [go_sem,lv,c1,c2,c3,g0,g1,g2,g7,g8]
     exact ⟨trivial,trivial,e1,trivial,trivial,trivial,i,rfl,hi,fun _ hh=>by omega⟩
   ·simp (maxSteps:=1000000) -dsimp (disch:=(repeat first | rw [nxn] | rw [nxp]);try omega) only [go_sem,lv,c1,c2,g0,g1,g2,g7,g8]
    exact ⟨trivial,trivial,e1,trivial,trivial,trivial,i,rfl,hi,fun hh=>by omega⟩
  ·simp (maxSteps:=1000000) -dsimp (disch:=(repeat first | rw [nxn] | rw [nxp]);try omega) only [go_sem,lv,c1,g0,g1,g2,g7,g8]
   exact ⟨trivial,trivial,e1,trivial,trivial,trivial,i,rfl,hi,fun _ _=>by omega⟩
 ·simp (maxSteps:=1000000) -dsimp (disch:=(repeat first | rw [nxn] | rw [nxp]);try omega) only [go_sem]
  exact ⟨trivial,Fr.refl _,trivial,trivial,trivial,0,rfl,rfl,Nat.zero_le _,Nat.zero_le _,rfl⟩
 ·rintro ex ⟨tt,g,d⟩ ⟨rfl,rfl,e1,g0,g1,g2,i,g7,hi,hfin⟩
  dsimp only at e1 g0 g1 g2 g7
  by_cases c1:((l.length:Nat):Int)≤((N:Nat):Int)
  ·by_cases c2:((wM M (l.take i):Nat):Int)≤((M:Nat):Int)
   ·simp (maxSteps:=1000000) -dsimp (disch:=(repeat first | rw [nxn] | rw [nxp]);try omega) only [go_sem,lv,c1,c2,g0,g1,g2,g7]
    have:=hfin (by omega) (by omega)
    subst this
    rw [List.take_length] at c2
    exact ⟨e1,true,rfl,fun _=>⟨by omega,by omega⟩⟩
   ·simp (maxSteps:=1000000) -dsimp (disch:=(repeat first | rw [nxn] | rw [nxp]);try omega) only [go_sem,lv,c1,c2,g0,g1,g2,g7]
    exact ⟨e1,false,rfl,fun hh=>by cases hh⟩
  ·simp (maxSteps:=1000000) -dsimp (disch:=(repeat first | rw [nxn] | rw [nxp]);try omega) only [go_sem,lv,c1,g0,g1,g2,g7]
   exact ⟨e1,false,rfl,fun hh=>by cases hh⟩
end
end Go.Proofs.YtaooopaemphfjaaGreatDoor.tbl
end

section
namespace Go.Proofs.YtaooopaemphfjaaGreatDoor.tbl
open Go Go.Abs Go.Abs.Rec Go.Abs.Wal Go.Proofs Go.Proofs.YtaooopaemphfjaaGreatDoor.tre
set_option maxRecDepth 100000
set_option linter.unusedVariables false
set_option linter.unusedSimpArgs false
def pS:Pth:=[115]
theorem pSb:bytesOf { data:=#[115] }=pS:=by decide +kernel
theorem pSok:checkS pS=0:=by decide +kernel
theorem pSne:¬pS=tmpS++pS:=by decide +kernel
theorem wM_eq {M:Nat}:∀ {l:KL (List Nat×Bool)},wM M l≤M→wtf lenP l≤M∧wtf lenP l=wM M l
 | [],_=>⟨Nat.zero_le _,rfl⟩
 | p::r,h=>by
  have e:wM M (p::r)=min p.1.length (M+1)+min p.2.1.length (M+1)+wM M r:=rfl
  rw [e] at h ⊢
  obtain ⟨i1,i2⟩:=wM_eq (M:=M) (l:=r) (by omega)
  have e2:wtf lenP (p::r)=p.1.length+p.2.1.length+wtf lenP r:=rfl
  rw [e2]
  omega
structure D2 (h0 h:AH) (C D:Nat→Nat):Prop where
 dj:Dj C D
 tc:∀j,h.nx≤j→C j=0
 td:∀j,h.nx≤j→D j=0
 fr:Fr h0 h
 oc:∀j,j<h0.nx→C j=0
 od:∀j,j<h0.nx→D j=0
theorem D2.swap {h0 h C D} (d:D2 h0 h C D):D2 h0 h D C:=⟨d.dj.symm,d.td,d.tc,d.fr,d.od,d.oc⟩
theorem D2.gr {h0 h:AH} {C D C':Nat→Nat} (d:D2 h0 h C D) {h':AH} (g:Go.Proofs.YtaooopaemphfjaaGreatDoor.tre.Gr C h C' h') (t:∀j,h'.nx≤j→C' j=0):D2 h0 h' C' D :=
 let ⟨f,o⟩:=Go.Proofs.YtaooopaemphfjaaGreatDoor.tre.Gr.fr g d.fr d.oc
 ⟨d.dj.gr g d.td,t,fun j hj=>d.td j (Nat.le_trans g.nx hj),f,o,d.od⟩
theorem D2.more {h0 h:AH} {C D:Nat→Nat} (d:D2 h0 h C D) {h':AH} (f:Fr h h'):D2 h0 h' C D:=⟨d.dj,fun j hj=>d.tc j (Nat.le_trans f.nx hj),fun j hj=>d.td j (Nat.le_trans f.nx hj),d.fr.trans f,d.oc,d.od⟩
theorem D2.top {h0 h:AH} {C D:Nat→Nat} (d:D2 h0 h C D):∀j,h.nx≤j→C j+D j=0:=fun j hj=>by rw [d.tc j hj,d.td j hj]
theorem tp2 {C' C D:Nat→Nat} {h:AH} {v:AV} {t:Tp} (ht:TpA (fun j=>C' j+(C j+D j)) h v t):TpA (fun j=>C' j+D j) h v t:=ht.col fun j _ hk=>by
 have hk':C' j+(C j+D j)=0:=hk
 show C' j+D j=0
 omega
theorem tpc {C D:Nat→Nat} {h:AH} {v:AV} {t:Tp} (ht:TpA (fun j=>C j+D j) h v t):TpA (fun j=>D j+C j) h v t:=ht.col fun j _ hk=>by
 have hk':C j+D j=0:=hk
 show D j+C j=0
 omega
abbrev recs (bs:List (KL (List Nat×Bool))):List (List Nat):=bs.map fun b=>recE (lastD b)
theorem recs_len {bs:List (KL (List Nat×Bool))} (h:∀b∈bs,Gd b):(frs (recs bs)).length≤5011*bs.length∧∀x∈recs bs,x.length≤1048576:=by
 have hx:∀x∈recs bs,x.length≤5003:=fun x hx=>by
  obtain ⟨b,hb,rfl⟩:=List.mem_map.1 hx
  have:=(h b hb).len
  have:=(h b hb).n
  have:=(h b hb).w
  omega
 refine ⟨?_,fun x h=>by have:=hx x h;omega⟩
 rw [frs_sum]
 have key:∀l:List (List Nat),(∀x∈l,x.length≤5003)→sumL l≤5003*l.length:=fun l=>by
  induction l with
  | nil=>exact fun _=>Nat.le_refl _
  | cons a r ih =>
   intro hh
   have h1:=hh a (by simp)
   have h2:=ih fun x hx=>hh x (by simp [hx])
   show a.length+sumL r≤5003*(r.length+1)
   omega
 have:=key _ hx
 rw [List.length_map] at this ⊢
 omega
def dones:KL (List Nat)→List (KL (List Nat×Bool))→KL (List Nat):=List.foldl fun L b=>doneP L (lastD b)
section
variable {S : Sums}
set_option maxHeartbeats 4000000 in
theorem batch2 (hS:Sw S) {h0 h:AH} {C D:Nat→Nat} {p L Q gr:Nat} {R:Int} {path:Pth} {c st:Nat} {a:List (List Nat)} {x:List Nat} {Lk:KL (List Nat)} {tv v:AV} {t:Tp} {b:KL (List Nat×Bool)} (d:D2 h0 h C D) (hs:SA C h p L Q path gr (Wx R path c st a x Lk).l (Wx R path c st a x Lk).T tv) (hp:checkS path=0) (hc:c≤100000)
  (hg:(frs a).length≤gr) (hgr:gr≤1000000000) (hal:a.length≤100000) (hR:(((frs a).length+6000:Nat):Int)≤R) (htv:TpA (fun j=>C j+D j) h tv t) (hit:ino t=Lk) (hrt:riseP Lk) (hts:Lk.length≤15000) (hv:Ps h v b) (hvo:∀id o n z c,v=.sl id o n z c→C id=0) (hb:Gd b) :
  RnC Tryz.prog S 10 [.ptr Q 0,v] h fun r h'=>r=.int .i64 ((recP b).2:Nat)∧∃C' tv' t' c' st' a' x',SA C' h' p L Q path gr (Wx R path c' st' a' x' []).l (Wx R path c' st' a' x' []).T tv'∧D2 h0 h' C' D∧Go.Proofs.YtaooopaemphfjaaGreatDoor.tre.Gr C h C' h'∧TpA (fun j=>C' j+D j) h' tv' t'∧riseP (ino t')∧(Hp t→Hp t')∧c'≤c+1∧((recP b).2=0→a'=a++[recE (lastD b)]∧ino t'=doneP Lk (lastD b))∧((recP b).2≠0→a'=a∧ino t'=Lk):=by
 have hlen:=hb.len
 have hbn:=hb.n
 have hbw:=hb.w
 obtain ⟨c',st',a',x',L',e,hc',e1,e2⟩:=wx_bat (R:=R) (p:=path) (q:=tmpS++path) (c:=c) (st:=st) (gr:=gr) (a:=a) (x:=x) (L:=Lk) (b:=b) hg (by omega)
 have hbat:=batchC hS (s:=Wx R path c st a x Lk) (J:=fun j=>C j+D j) hs hp (n:=1) (c:=c) wt_bm (by decide) (by omega) (by show (frs a).length≤_;omega) (by show a.length≤_;omega) htv (fun j hj=>by show C j+D j≠0;omega) d.top hit hrt (by rw [Tp.size_eq,hit];omega) (by omega) hv hvo (by omega) hb.pl (by omega) hb.by (fun hh=>absurd hh (Nat.not_lt.2 hg))
 rw [e] at hbat
 refine hbat.mono ?_
 rintro r h' ⟨rfl,C',tv',t',hs',g,ht',hi',hH⟩
 refine ⟨rfl,C',tv',t',c',st',a',x',hs',d.gr g hs'.top,g,tp2 ht',?_,hH,hc',fun hh=>⟨(e1 hh).1,hi'.trans (e1 hh).2⟩,fun hh=>⟨(e2 hh).1,hi'.trans (e2 hh).2⟩⟩
 rw [hi']
 show riseP L'
 by_cases h0:(recP b).2=0
 ·rw [(e1 h0).2];exact riseP_done _ hrt
 ·rw [(e2 h0).2];exact hrt
end
end Go.Proofs.YtaooopaemphfjaaGreatDoor.tbl
end
