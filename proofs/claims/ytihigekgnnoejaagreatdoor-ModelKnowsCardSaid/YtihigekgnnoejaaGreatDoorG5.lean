/- Texts joined: MQ, MR, MS, MT. -/
import Derived.Test.YtihigekgnnoejaaGreatDoorG4
import Derived.Test.YtihigekgnnoejaaGreatDoorAb5
set_option maxRecDepth 100000
set_option linter.unusedVariables false
set_option linter.unusedSimpArgs false
set_option maxHeartbeats 32000000
section
namespace Go.Proofs.YtihigekgnnoejaaGreatDoor.mdl
open Go Go.Abs Go.Proofs
def versF (l:List Hd) (f p:List Nat):List Rc:=l.flatMap fun x=>if x.folder=f∧x.path=p then x.past else []
theorem versF_at {l:List Hd} {f p:List Nat} {a:Nat} {x:Hd} (hx:l[a]? = some x):versF l f p=versF (l.take a) f p++((if x.folder=f∧x.path=p then x.past else [])++versF (l.drop (a+1)) f p):=by
 have e:l=l.take a++(x::l.drop (a+1)):=by rw [←drop_at hx,List.take_append_drop]
 unfold versF
 conv=>lhs;rw [e]
 rw [List.flatMap_append,List.flatMap_cons]
theorem versF_take {l:List Hd} {f p:List Nat} {a:Nat} {x:Hd} (hx:l[a]? = some x):(versF (l.take (a+1)) f p).length=(versF (l.take a) f p).length+(if x.folder=f∧x.path=p then x.past else []).length:=by
 have e:l.take (a+1)=l.take a++[x]:=by rw [List.take_add_one,hx];rfl
 rw [e]
 unfold versF
 rw [List.flatMap_append,List.length_append]
 simp
theorem Hs.kid {K:Nat→Nat} {h:AH} {id off n z:Nat} {c:Option Nat} {l:List Hd} (hb:Hs K h (.sl id off n z c) l):K id=0:=by
 rcases hb.1 with ⟨h1,_⟩ | ⟨id',off',c',cs,o,t,h1,h2,h3,h4,_⟩
 ·cases h1
 ·cases h1;exact h4
section
variable {S : Sums}
theorem knownC (hS:Mo S) {h:AH} {p:Nat} (f q:List Nat):RnC Tryz.prog S 37 [.ptr p 0,.str f,.str q] h fun r h'=>r=.func (.func 50) [] [.ptr h.nx 0,.ptr (h.nx+1) 0,.ptr (h.nx+2) 0]∧h'=((h.new (.cells [.ptr p 0] true false)).new (.cells [.str f] true false)).new (.cells [.str q] true false):=by
 refine RnC.enter' Tryz.f37 _ 8 [.tmp 6] (hS.no _ _ _ (by simp)) bd37 Tryz.func37 rfl rfl rfl ?_
 simp -dsimp only [go_sem]
 exact ⟨by first | trivial | rfl,by first | trivial | rfl⟩
theorem known1C (hS:Mo S) {K:Nat→Nat} {h0 h:AH} {y p bs bf bq:Nat} {hv sv:AV} {l:List Hd} {f q:List Nat} (G:Nat→AH→Prop) (X:AH→Prop)
  (hp:h0.get p=some (.cells [hv,sv] true false)) (hpn:p<h0.nx) (hH:Hs K h0 hv l) (hbs:h0.get bs=some (.cells [.ptr p 0] true false)) (nbs:bs<h0.nx) (hbf:h0.get bf=some (.cells [.str f] true false)) (nbf:bf<h0.nx) (hbq:h0.get bq=some (.cells [.str q] true false)) (nbq:bq<h0.nx)
  (kp:K p=0) (kbs:K bs=0) (kbf:K bf=0) (kbq:K bq=0) (hG:∀i g,G i g→Gk K h0 g) (hm:∀i g g',G i g→Fr g g'→G i g')
  (step:∀i g cs x,(versF l f q)[i]? = some x→G i g→Ra K g cs x→RnR Tryz.prog S y [.agg cs] g fun r g'=>(r=.bool true∧G (i+1) g')∨(r=.bool false∧X g')) (h00:G 0 h) :
  RnC Tryz.prog S 50 [.yld y,.ptr bs 0,.ptr bf 0,.ptr bq 0] h fun r h'=>G (versF l f q).length h'∨X h':=by
 refine RnC.enter' Tryz.f50 _ 42 [] (hS.no _ _ _ (by simp)) bd50 Tryz.func50 rfl rfl rfl ?_
 have fh:=hG 0 h h00
 have g1:=(fh.get _ nbs kbs).trans hbs
 have g2:=(fh.get _ hpn kp).trans hp
 obtain ⟨lv,svv,ov⟩:=hH.ln
 have hl:=hH.2
 simp (maxSteps:=9^9) -dsimp (disch:=repeat first|rw [nxn]|rw [nxp]|omega) only [go_sem,g1,g2,lv,ov]
 refine loopK_of (RnL.rounds (Q:=fun ex u=>u.d=[]∧(ex=.exit 0∧G (versF l f q).length u.h∨ex=.ret∧X u.h))
  (fun m u=>u.d=[]∧u.t.get 0=some (.yld y)∧u.t.get 2=some (.ptr bf 0)∧u.t.get 3=some (.ptr bq 0)∧u.t.get 13=some hv∧u.t.get 14=some (.int .i64 (l.length:Nat))∧∃a:Nat,u.t.get 15=some (.int .i64 (a:Nat))∧a≤l.length∧G (versF (l.take a) f q).length u.h∧m=l.length-a) ?_ l.length ?_) ?_
 ·rintro m ⟨tt,g,dd⟩ ⟨e2,t0,t2,t3,t13,t14,a,t15,ha,hGa,rfl⟩
  dsimp only at e2 t0 t2 t3 t13 t14 t15 hGa
  subst e2
  have fg:=hG _ _ hGa
  by_cases c4:(a:Int)<(l.length:Nat)
  ·have hil:a<l.length:=by omega
   obtain ⟨x,hx⟩:∃x,l[a]? = some x:=⟨_,List.getElem?_eq_getElem hil⟩
   have hvt:=versF_take (f:=f) (p:=q) hx
   have hva:=versF_at (f:=f) (p:=q) hx
   obtain ⟨id,off,c,cs,o,t,w,d,pv,rfl,hgi0,hidl,hle,hE,ew,ed,ep,epv,_,_,_,_,_⟩:=hH.el hx
   have hgi:=(fg.get id hidl hH.kid).trans hgi0
   have ow:=ew.ln.2.2.2
   have od:=ed.ln.2.2
   obtain ⟨lpv,spv,opv⟩:=epv.ln
   have mw:=oneM ow
   have md:=oneM od
   have mpv:=oneM opv
   have f3:Fr g ((g.new (.cells [.int .i64 0,.str [],.str [],.str [],.nilsl,.int .i64 0,.bool false,.int .i64 0,.int .i64 0,.nilsl,.nilsl,.int .i64 0] true false)).put g.nx (.cells [.int .i64 x.dev,.str x.folder,.str x.path,.str x.now.path,w,.int .i64 x.now.own,.bool x.now.gone,.int .i64 x.now.size,.int .i64 x.now.len,d,pv,.int .i64 (x.start:Nat)] true false)):=(Fr.new _ _).put _ (Nat.le_refl _)
   have q3:((g.new (.cells [.int .i64 0,.str [],.str [],.str [],.nilsl,.int .i64 0,.bool false,.int .i64 0,.int .i64 0,.nilsl,.nilsl,.int .i64 0] true false)).put g.nx (.cells [.int .i64 x.dev,.str x.folder,.str x.path,.str x.now.path,w,.int .i64 x.now.own,.bool x.now.gone,.int .i64 x.now.size,.int .i64 x.now.len,d,pv,.int .i64 (x.start:Nat)] true false)).get g.nx=some (.cells [.int .i64 x.dev,.str x.folder,.str x.path,.str x.now.path,w,.int .i64 x.now.own,.bool x.now.gone,.int .i64 x.now.size,.int .i64 x.now.len,d,pv,.int .i64 (x.start:Nat)] true false):=AH.get_put_eq rfl
   have q4:=((fg.trans (f3.gk K)).get _ nbf kbf).trans hbf
   have q5:=((fg.trans (f3.gk K)).get _ nbq kbq).trans hbq
   by_cases h1:x.folder=f
   case neg =>
    have e0:¬(x.folder=f∧x.path=q):=fun hh=>h1 hh.1
    rw [if_neg e0] at hvt
    have hG1:∀g',Fr g g'→G (versF (l.take (a+1)) f q).length g':=fun g' ff=>by rw [hvt];exact hm _ _ _ hGa ff
    simp (maxSteps:=9^9) -dsimp (disch:=repeat first|rw [nxn]|rw [nxp]|omega) only [go_sem,c4,t0,t2,t3,t13,t14,t15,hil,hgi,hle,hE,ow,od,opv,mw,md,mpv,q3,q4,q5,neStr,decide_eq_false h1]
    exact ⟨l.length-(a+1),by omega,trivial,trivial,trivial,trivial,trivial,trivial,a+1,rfl,by omega,hG1 _ f3,rfl⟩
   by_cases h2:x.path=q
   case neg =>
    have e0:¬(x.folder=f∧x.path=q):=fun hh=>h2 hh.2
    rw [if_neg e0] at hvt
    have hG1:∀g',Fr g g'→G (versF (l.take (a+1)) f q).length g':=fun g' ff=>by rw [hvt];exact hm _ _ _ hGa ff
    simp (maxSteps:=9^9) -dsimp (disch:=repeat first|rw [nxn]|rw [nxp]|omega) only [go_sem,c4,t0,t2,t3,t13,t14,t15,hil,hgi,hle,hE,ow,od,opv,mw,md,mpv,q3,q4,q5,neStr,decide_eq_true h1,decide_eq_false h2]
    exact ⟨l.length-(a+1),by omega,trivial,trivial,trivial,trivial,trivial,trivial,a+1,rfl,by omega,hG1 _ f3,rfl⟩
   rw [if_pos ⟨h1,h2⟩] at hvt hva
   have hGb:=hm _ _ _ hGa f3
   simp (maxSteps:=9^9) -dsimp (disch:=repeat first|rw [nxn]|rw [nxp]|omega) only [go_sem,c4,t0,t2,t3,t13,t14,t15,hil,hgi,hle,hE,ow,od,opv,mw,md,mpv,q3,q4,q5,neStr,decide_eq_true h1,decide_eq_true h2,lpv]
   generalize (g.new (.cells [.int .i64 0,.str [],.str [],.str [],.nilsl,.int .i64 0,.bool false,.int .i64 0,.int .i64 0,.nilsl,.nilsl,.int .i64 0] true false)).put g.nx (.cells [.int .i64 x.dev,.str x.folder,.str x.path,.str x.now.path,w,.int .i64 x.now.own,.bool x.now.gone,.int .i64 x.now.size,.int .i64 x.now.len,d,pv,.int .i64 (x.start:Nat)] true false)=g3 at f3 hGb ⊢
   have hpl:=epv.2
   refine loopK_of (RnL.rounds (Q:=fun ex u=>u.d=[]∧(ex=.exit 2∧u.t.get 0=some (.yld y)∧u.t.get 2=some (.ptr bf 0)∧u.t.get 3=some (.ptr bq 0)∧u.t.get 13=some (.sl id off l.length 12 c)∧u.t.get 14=some (.int .i64 (l.length:Nat))∧u.t.get 15=some (.int .i64 (a:Nat))∧G ((versF (l.take a) f q).length+x.past.length) u.h∨ex=.ret∧X u.h))
    (fun m u=>u.d=[]∧u.t.get 0=some (.yld y)∧u.t.get 2=some (.ptr bf 0)∧u.t.get 3=some (.ptr bq 0)∧u.t.get 13=some (.sl id off l.length 12 c)∧u.t.get 14=some (.int .i64 (l.length:Nat))∧u.t.get 15=some (.int .i64 (a:Nat))∧u.t.get 30=some pv∧u.t.get 31=some (.int .i64 (x.past.length:Nat))∧∃b:Nat,u.t.get 32=some (.int .i64 (b:Nat))∧b≤x.past.length∧G ((versF (l.take a) f q).length+b) u.h∧m=x.past.length-b) ?_ x.past.length ?_) ?_
   ·rintro m ⟨tt,g4,dd⟩ ⟨e2,t0,t2,t3,t13,t14,t15,t30,t31,b,t32,hb,hG4,rfl⟩
    dsimp only at e2 t0 t2 t3 t13 t14 t15 t30 t31 t32 hG4
    subst e2
    have fg4:=hG _ _ hG4
    by_cases c5:(b:Int)<(x.past.length:Nat)
    ·have hbl:b<x.past.length:=by omega
     obtain ⟨r,hr⟩:∃r,x.past[b]? = some r:=⟨_,List.getElem?_eq_getElem hbl⟩
     obtain ⟨id2,off2,c2,cs2,o2,tx2,w2,d2,rfl,hgi2,hidl2,hle2,hE2,ew2,ed2,ep2,_⟩:=(epv.gk fg4).el hr
     have ow2:=ew2.ln.2.2.2
     have od2:=ed2.ln.2.2
     have mw2:=oneM ow2
     have md2:=oneM od2
     have f5:Fr g4 ((g4.new (.cells [.str [],.nilsl,.int .i64 0,.bool false,.int .i64 0,.int .i64 0,.nilsl] true false)).put g4.nx (.cells [.str r.path,w2,.int .i64 r.own,.bool r.gone,.int .i64 r.size,.int .i64 r.len,d2] true false)):=(Fr.new _ _).put _ (Nat.le_refl _)
     have q6:((g4.new (.cells [.str [],.nilsl,.int .i64 0,.bool false,.int .i64 0,.int .i64 0,.nilsl] true false)).put g4.nx (.cells [.str r.path,w2,.int .i64 r.own,.bool r.gone,.int .i64 r.size,.int .i64 r.len,d2] true false)).get g4.nx=some (.cells [.str r.path,w2,.int .i64 r.own,.bool r.gone,.int .i64 r.size,.int .i64 r.len,d2] true false):=AH.get_put_eq rfl
     have hvi:(versF l f q)[(versF (l.take a) f q).length+b]? = some r:=by
      rw [hva,List.getElem?_append_right (by omega),Nat.add_sub_cancel_left,List.getElem?_append_left hbl,hr]
     simp (maxSteps:=9^9) -dsimp (disch:=repeat first|rw [nxn]|rw [nxp]|omega) only [go_sem,c5,t0,t2,t3,t13,t14,t15,t30,t31,t32,hbl,hgi2,hle2,hE2,ow2,od2,mw2,md2,q6]
     refine yldK_of (step _ _ _ r hvi (hm _ _ _ hG4 f5) ⟨w2,d2,rfl,ew2.fr f5,ed2.fr f5,ep2⟩) ?_
     rintro vv g6 (⟨rfl,hG6⟩ | ⟨rfl,hX6⟩)
     ·simp (maxSteps:=9^9) -dsimp (disch:=repeat first|rw [nxn]|rw [nxp]|omega) only [go_sem,t0,t2,t3,t13,t14,t15,t30,t31,t32]
      exact ⟨x.past.length-(b+1),by omega,trivial,trivial,trivial,trivial,trivial,trivial,trivial,trivial,trivial,b+1,rfl,by omega,hG6,rfl⟩
     ·simp (maxSteps:=9^9) -dsimp (disch:=repeat first|rw [nxn]|rw [nxp]|omega) only [go_sem,t0,t2,t3,t13,t14,t15,t30,t31,t32]
      exact ⟨trivial,.inr ⟨trivial,hX6⟩⟩
    ·have:b=x.past.length:=by omega
     subst this
     simp (maxSteps:=9^9) -dsimp (disch:=repeat first|rw [nxn]|rw [nxp]|omega) only [go_sem,c5,t0,t2,t3,t13,t14,t15,t30,t31,t32]
     exact ⟨trivial,.inl ⟨trivial,trivial,trivial,trivial,trivial,trivial,trivial,hG4⟩⟩
   ·simp (maxSteps:=9^9) -dsimp (disch:=repeat first|rw [nxn]|rw [nxp]|omega) only [go_sem,t0,t2,t3,t13,t14,t15]
    exact ⟨trivial,trivial,trivial,trivial,trivial,trivial,trivial,trivial,trivial,0,rfl,Nat.zero_le _,hGb,rfl⟩
   ·rintro ex ⟨tt,g4,dd⟩ ⟨rfl,⟨rfl,t0,t2,t3,t13,t14,t15,hG4⟩ | ⟨rfl,hX⟩⟩
    ·dsimp only at t0 t2 t3 t13 t14 t15 hG4
     rw [←hvt] at hG4
     simp (maxSteps:=9^9) -dsimp (disch:=repeat first|rw [nxn]|rw [nxp]|omega) only [go_sem,t0,t2,t3,t13,t14,t15]
     exact ⟨l.length-(a+1),by omega,trivial,trivial,trivial,trivial,trivial,trivial,a+1,rfl,by omega,hG4,rfl⟩
    ·dsimp only at hX
     simp (maxSteps:=9^9) -dsimp (disch:=repeat first|rw [nxn]|rw [nxp]|omega) only [go_sem]
     exact ⟨trivial,.inr ⟨trivial,hX⟩⟩
  ·have:a=l.length:=by omega
   subst this
   rw [List.take_length] at hGa
   simp (maxSteps:=9^9) -dsimp (disch:=repeat first|rw [nxn]|rw [nxp]|omega) only [go_sem,c4,t0,t2,t3,t13,t14,t15]
   exact ⟨trivial,.inl ⟨trivial,hGa⟩⟩
 ·simp (maxSteps:=9^9) -dsimp (disch:=repeat first|rw [nxn]|rw [nxp]|omega) only [go_sem]
  exact ⟨trivial,trivial,trivial,trivial,trivial,trivial,0,rfl,Nat.zero_le _,h00,rfl⟩
 ·rintro ex ⟨tt,g,dd⟩ ⟨rfl,⟨rfl,hGe⟩ | ⟨rfl,hX⟩⟩
  ·dsimp only at hGe
   simp (maxSteps:=9^9) -dsimp (disch:=repeat first|rw [nxn]|rw [nxp]|omega) only [go_sem]
   exact .inl hGe
  ·dsimp only at hX
   simp (maxSteps:=9^9) -dsimp (disch:=repeat first|rw [nxn]|rw [nxp]|omega) only [go_sem]
   exact .inr hX
end
theorem busy_gen {P:Program} {S:Sums} {x:Option Nat} {fn n y:Nat} {body:Code} {t:Env} {d:List Nat} {g:AH} {o:AO} {K:Ex→St→Prop}
  (H:∀gb:AH,gb.nx=g.nx→(∀j,j≠y→gb.get j=g.get j)→gb.get y=some o→syC P S x fn n body { t:=t,h:=gb,d:=d } K):syC P S x fn n body { t:=t,h:=g.put y o,d:=d } K :=
 H _ rfl (fun j hj=>by rw [AH.get_put,if_neg hj]) (AH.get_put_eq rfl)
section
variable {S : Sums}
theorem sourcesC (hS:Mo S) {K:Nat→Nat} {h:AH} {p:Nat} {l:List Hd} {cr:List AV} {r:Rc} (k:Ky) (hw:Vw K h p l) (hr:Ra K h cr r) (top:∀j,h.nx≤j→K j=0):RnC Tryz.prog S 93 [.ptr p 0,.agg [.int .i64 k.1,.str k.2.1,.str k.2.2],.agg cr] h fun v h' =>
  (∃b3 cn,v=.func (.func 119) [] [.ptr h.nx 0,.ptr (h.nx+1) 0,.ptr b3 0,.ptr (h.nx+2) 0]∧h.nx+3≤b3∧b3<h'.nx∧h'.get h.nx=some (.cells [.ptr p 0] true false)∧h'.get (h.nx+1)=some (.cells [.int .i64 k.1,.str k.2.1,.str k.2.2] true false)∧h'.get b3=some (.cells cn true false)∧Ra K h' cn (nowF l k).1∧h'.get (h.nx+2)=some (.cells cr true false))∧Fr h h':=by
 have hr0:=hr
 obtain ⟨w,d,rfl,hwv,hd,_⟩:=hr
 refine RnC.enter' Tryz.f93 _ 16 [.tmp 6] (hS.no _ _ _ (by simp)) bd93 Tryz.func93 rfl rfl rfl ?_
 have ow:=hwv.ln.2.2.2
 have od:=hd.ln.2.2
 have mw:=oneM ow
 have md:=oneM od
 simp -dsimp only [go_sem,ow,od,mw,md]
 generalize hg:(((h.new (.cells [.ptr p 0] true false)).new (.cells [.int .i64 k.1,.str k.2.1,.str k.2.2] true false)).new (.cells [.str r.path,w,.int .i64 r.own,.bool r.gone,.int .i64 r.size,.int .i64 r.len,d] true false))=g1
 have n1:g1.nx=h.nx+3:=by rw [←hg];rfl
 have f1:Fr h g1:=by rw [←hg];exact ((Fr.new _ _).news _).news _
 have q1:g1.get h.nx=some (.cells [.ptr p 0] true false):=by rw [←hg];exact (AH.get_new_ne (by simp [AH.new];omega)).trans ((AH.get_new_ne (by simp)).trans (AH.get_new_eq rfl))
 have q2:g1.get (h.nx+1)=some (.cells [.int .i64 k.1,.str k.2.1,.str k.2.2] true false):=by rw [←hg];exact (AH.get_new_ne (by simp [AH.new])).trans (AH.get_new_eq rfl)
 have q3:g1.get (h.nx+2)=some (.cells [.str r.path,w,.int .i64 r.own,.bool r.gone,.int .i64 r.size,.int .i64 r.len,d] true false):=by rw [←hg];exact AH.get_new_eq rfl
 try simp -dsimp only [go_sem,q1,q2]
 refine callK_of (nowC hS.toMk k (hw.fr f1) fun j hj=>top j (by omega)) ?_
 rintro v g2 ⟨⟨cn,rfl,hn⟩,f2⟩
 have f12:=f1.trans f2
 have n2:=f2.nx
 have hn0:=hn
 obtain ⟨w3,d3,rfl,hw3,hd3,hp3⟩:=hn
 have ow3:=hw3.ln.2.2.2
 have od3:=hd3.ln.2.2
 have mw3:=oneM ow3
 have md3:=oneM od3
 generalize (nowF l k).1=y at *
 have f3:Fr g2 ((g2.new (.cells [.str [],.nilsl,.int .i64 0,.bool false,.int .i64 0,.int .i64 0,.nilsl] true false)).put g2.nx (.cells [.str y.path,w3,.int .i64 y.own,.bool y.gone,.int .i64 y.size,.int .i64 y.len,d3] true false)):=(Fr.new _ _).put _ (Nat.le_refl _)
 simp -dsimp only [go_sem,ow3,od3,mw3,md3]
 have e1:=(f2.get h.nx (by omega)).trans q1
 have e2:=(f2.get (h.nx+1) (by omega)).trans q2
 have e3:=(f2.get (h.nx+2) (by omega)).trans q3
 refine ⟨⟨g2.nx,_,by first | trivial | rfl,by omega,by first | exact Nat.lt_succ_self _ | (show g2.nx<g2.nx+1;omega),?_,?_,AH.get_put_eq rfl,hn0.fr f3,?_⟩,f12.trans f3⟩
 ·first | exact e1 | exact (f3.get _ (by omega)).trans e1
 ·first | exact e2 | exact (f3.get _ (by omega)).trans e2
 ·first | exact e3 | exact (f3.get _ (by omega)).trans e3
theorem sources1C (hS:Mo S) {K:Nat→Nat} {h:AH} {y p b1 b2 b3 b4:Nat} {l:List Hd} {k:Ky} {cn cr:List AV} {u r:Rc} (G X:AH→Prop)
  (hw:Vw K h p l) (kp:K p=0) (h1:h.get b1=some (.cells [.ptr p 0] true false)) (h2:h.get b2=some (.cells [.int .i64 k.1,.str k.2.1,.str k.2.2] true false)) (h3:h.get b3=some (.cells cn true false)) (h4:h.get b4=some (.cells cr true false)) (hn:Ra K h cn u) (hr:Ra K h cr r) (nb:b1<h.nx∧b2<h.nx∧b3<h.nx∧b4<h.nx) (kb:K b1=0∧K b2=0∧K b3=0∧K b4=0) (top:∀j,h.nx≤j→K j=0)
  (hm:∀g g',G g→g.nx≤g'.nx→(∀j,j<h.nx→g'.get j=g.get j)→G g') (hx:∀g g',X g→g.nx≤g'.nx→(∀j,j<h.nx→g'.get j=g.get j)→X g') (hXn:∀g,X g→h.nx≤g.nx)
  (step:∀g cs x,x∈versF l k.2.1 k.2.2→G g→Ra K g cs x→RnR Tryz.prog S y [.agg cs] g fun v g'=>(v=.bool true∧G g'∧Gk K g g')∨(v=.bool false∧X g'∧Gk K g g')) (h00:G h) :
  RnC Tryz.prog S 119 [.yld y,.ptr b1 0,.ptr b2 0,.ptr b3 0,.ptr b4 0] h fun _ h'=>G h'∨X h':=by
 obtain ⟨hv,sv,hp,hpn,hH,os⟩:=hw
 obtain ⟨nb1,nb2,nb3,nb4⟩:=nb
 obtain ⟨kb1,kb2,kb3,kb4⟩:=kb
 have hn0:=hn
 have hr0:=hr
 obtain ⟨wn,dn,rfl,hwn,hdn,_⟩:=hn
 obtain ⟨wr,dr,rfl,hwr,hdr,_⟩:=hr
 have own:=hwn.ln.2.2.2
 have odn:=hdn.ln.2.2
 have owr:=hwr.ln.2.2.2
 have odr:=hdr.ln.2.2
 refine RnC.enter' Tryz.f119 _ 35 [] (hS.no _ _ _ (by simp)) bd119 Tryz.func119 rfl rfl rfl ?_
 have f1:Fr h (h.new (.cells [.yld y] true false)):=Fr.new _ _
 have r1:=fun o=>((Fr.new h o).get _ nb1).trans h1
 have r2:=fun o=>((Fr.new h o).get _ nb2).trans h2
 simp -dsimp only [go_sem,r1,r2]
 refine callK_of (knownC hS k.2.1 k.2.2) ?_
 rintro v g1 ⟨rfl,hg1⟩
 simp -dsimp only [go_sem,evLen,loopHead,bd50]
 have n1:g1.nx=h.nx+4:=by rw [hg1];rfl
 have f2:Fr h g1:=by rw [hg1];exact ((f1.news _).news _).news _
 have k1:g1.get (h.nx+1)=some (.cells [.ptr p 0] true false):=by rw [hg1];exact (AH.get_new_ne (by simp [AH.new])).trans ((AH.get_new_ne (by simp [AH.new])).trans (AH.get_new_eq rfl))
 have k2:g1.get (h.nx+1+1)=some (.cells [.str k.2.1] true false):=by rw [hg1];exact (AH.get_new_ne (by simp [AH.new])).trans (AH.get_new_eq rfl)
 have k3:g1.get (h.nx+1+2)=some (.cells [.str k.2.2] true false):=by rw [hg1];exact AH.get_new_eq rfl
 have k0:g1.get h.nx=some (.cells [.yld y] true false):=by rw [hg1];exact (AH.get_new_ne (by simp [AH.new];omega)).trans ((AH.get_new_ne (by simp [AH.new];omega)).trans ((AH.get_new_ne (by simp [AH.new])).trans (AH.get_new_eq rfl)))
 generalize hlo:AO.loop LoopState.ready none _ _ _ _ _ _ _=lo
 have kz:∀j,j<g1.nx→K j=0→Kb K g1.nx (g1.nx+2) j=0:=fun j hj hk=>(Kb.out (.inl hj)).trans hk
 have tz:∀j,h.nx≤j→j<g1.nx→Kb K g1.nx (g1.nx+2) j=0:=fun j hj hj2=>kz j hj2 (top j hj)
 have t2:∀j,g1.nx+2≤j→Kb K g1.nx (g1.nx+2) j=0:=fun j hj=>(Kb.out (.inr hj)).trans (top j (by omega))
 have fin2:Fr g1 ((g1.new (.defs true)).new lo):=(Fr.new _ _).news _
 refine callK_of (known1C hS (K:=Kb K g1.nx (g1.nx+2)) (h0:=g1) (p:=p) (hv:=hv) (sv:=sv) (l:=l) (f:=k.2.1) (q:=k.2.2) (fun _ g=>G g∧g.get (g1.nx+1)=some lo∧g.get g1.nx=some (.defs true)∧g1.nx+2≤g.nx∧Gk (Kb K g1.nx (g1.nx+2)) g1 g) (fun g=>∃pe fn te n ps a b d,X g∧g.get (g1.nx+1)=some (.loop .done (some .ret) fn te n ps a b d)∧g.get g1.nx=some (.defs true)∧g1.nx+2≤g.nx∧pe=())
  ((f2.get _ hpn).trans hp) (Nat.lt_of_lt_of_le hpn f2.nx) ((hH.fr f2).col kz) k1 (by omega) k2 (by omega) k3 (by omega) (kz p (Nat.lt_of_lt_of_le hpn f2.nx) kp) (tz _ (by omega) (by omega)) (tz _ (by omega) (by omega)) (tz _ (by omega) (by omega)) (fun i g hh=>hh.2.2.2.2)
  (fun i g g' hh ff=>by
   have q:=hh.2.2.2.1
   exact ⟨hm g g' hh.1 ff.nx fun j hj=>ff.get j (by omega),(ff.get _ (by omega)).trans hh.2.1,(ff.get _ (by omega)).trans hh.2.2.1,Nat.le_trans q ff.nx,hh.2.2.2.2.trans (ff.gk _)⟩) ?_ ?_) ?_
 ·intro i g cs x hxi hG2 hxr
  obtain ⟨hGg,hgl,hgd,hgn,hgk⟩:=hG2
  have hxm:x∈versF l k.2.1 k.2.2:=List.mem_iff_getElem?.2 ⟨i,hxi⟩
  rw [←hlo] at hgl
  have hxr0:=hxr
  obtain ⟨w,d,rfl,hwv,hd,hpx⟩:=hxr
  have ow:=hwv.ln.2.2.2
  have od:=hd.ln.2.2
  have mw:=oneM ow
  have md:=oneM od
  refine RnR.enter hgl (by simp [setArgs];rfl) ?_
  simp -dsimp only [go_sem,evLen,ow,od,mw,md]
  refine ⟨rfl,_,_,_,_,_,_,_,_,(AH.get_put_ne (by omega)).trans ((AH.get_new_ne (by omega)).trans hgl),?_⟩
  refine busy_gen ?_
  intro gb e1 e2 e3
  dsimp only at e1 e2 e3
  have e1':gb.nx=g.nx+1:=e1
  have lowg:∀j,j<g.nx→j≠g1.nx+1→gb.get j=g.get j:=fun j hj hne=>(e2 j hne).trans ((AH.get_put_ne (by omega)).trans (AH.get_new_ne (by omega)))
  have k2y:Kb K g1.nx (g1.nx+2) (g1.nx+1)≠0:=Kb.in (by omega) (by omega)
  have gkg:Gk (Kb K g1.nx (g1.nx+2)) g gb:=⟨by omega,fun j hj hk=>lowg j hj fun hh=>k2y (hh▸hk)⟩
  have gk1:=hgk.trans gkg
  have w3:gb.get b3=_:=(gk1.get b3 (by omega) (kz b3 (by omega) kb3)).trans ((f2.get _ nb3).trans h3)
  have w4:gb.get b4=_:=(gk1.get b4 (by omega) (kz b4 (by omega) kb4)).trans ((f2.get _ nb4).trans h4)
  have w0:gb.get h.nx=_:=(gk1.get h.nx (by omega) (tz _ (by omega) (by omega))).trans k0
  have w6:gb.get g.nx=some (.cells [.str x.path,w,.int .i64 x.own,.bool x.gone,.int .i64 x.size,.int .i64 x.len,d] true false):=(e2 _ (by omega)).trans (AH.get_put_eq rfl)
  have wd:gb.get g1.nx=some (.defs true):=(lowg _ (by omega) (by omega)).trans hgd
  have wG:G gb:=hm g gb hGg (by omega) fun j hj=>lowg j (by omega) (by omega)
  have hu:=((hn0.fr f2).col kz).gk gk1
  have hx':=hxr0.gk gkg
  have hr':=((hr0.fr f2).col kz).gk gk1
  simp -dsimp only [go_sem,evLen,w3,w6,own,odn,ow,od]
  refine callK_of (upC hS.toMg hu hx' fun j hj=>t2 j (by omega)) ?_
  rintro v g4 ⟨⟨cu,xu,e,rfl,hcu⟩,f4⟩
  have hcu0:=hcu
  obtain ⟨wu,du,rfl,hwu,hdu,_⟩:=hcu
  have owu:=hwu.ln.2.2.2
  have odu:=hdu.ln.2.2
  have mwu:=oneM owu
  have mdu:=oneM odu
  have f5:Fr g4 ((g4.new (.cells [.str [],.nilsl,.int .i64 0,.bool false,.int .i64 0,.int .i64 0,.nilsl] true false)).put g4.nx (.cells [.str xu.path,wu,.int .i64 xu.own,.bool xu.gone,.int .i64 xu.size,.int .i64 xu.len,du] true false)):=(Fr.new _ _).put _ (Nat.le_refl _)
  have w7:((g4.new (.cells [.str [],.nilsl,.int .i64 0,.bool false,.int .i64 0,.int .i64 0,.nilsl] true false)).put g4.nx (.cells [.str xu.path,wu,.int .i64 xu.own,.bool xu.gone,.int .i64 xu.size,.int .i64 xu.len,du] true false)).get g4.nx=some (.cells [.str xu.path,wu,.int .i64 xu.own,.bool xu.gone,.int .i64 xu.size,.int .i64 xu.len,du] true false):=AH.get_put_eq rfl
  have f45:=f4.trans f5
  have n4:=f4.nx
  have w54:=(f45.get b4 (by omega)).trans w4
  -- a round that goes on
  have go:∀ge,G ge→gb.nx≤ge.nx→Gk (Kb K g1.nx (g1.nx+2)) g1 ge→ge.get (g1.nx+1)=gb.get (g1.nx+1)→ge.get g1.nx=some (.defs true)→∀o,o=lo→(G (ge.put (g1.nx+1) o)∧(ge.put (g1.nx+1) o).get (g1.nx+1)=some lo∧(ge.put (g1.nx+1) o).get g1.nx=some (.defs true)∧g1.nx+2≤(ge.put (g1.nx+1) o).nx∧Gk (Kb K g1.nx (g1.nx+2)) g1 (ge.put (g1.nx+1) o)):=fun ge a1 a2 a3 a4 a5 o ho =>
   ⟨hm ge _ a1 (Nat.le_refl _) fun j hj=>AH.get_put_ne (by omega),by rw [ho];exact AH.get_put_eq rfl,(AH.get_put_ne (by omega)).trans a5,by show g1.nx+2≤ge.nx;omega,a3.put (.inl k2y) _⟩
  have goF:∀ge,Fr gb ge→G ge∧gb.nx≤ge.nx∧Gk (Kb K g1.nx (g1.nx+2)) g1 ge∧ge.get (g1.nx+1)=gb.get (g1.nx+1)∧ge.get g1.nx=some (.defs true):=fun ge ff=>⟨hm gb ge wG ff.nx fun j hj=>ff.get j (by omega),ff.nx,gk1.trans (ff.gk _),ff.get _ (by omega),(ff.get _ (by omega)).trans wd⟩
  by_cases he:e=0
  case neg =>
   obtain ⟨a1,a2,a3,a4,a5⟩:=goF _ f45
   simp -dsimp only [go_sem,evLen,owu,odu,mwu,mdu,he]
   exact ⟨_,_,_,_,_,_,_,_,_,a4.trans e3,.inl ⟨rfl,go _ a1 a2 a3 a4 a5 _ hlo⟩⟩
  simp -dsimp only [go_sem,evLen,owu,odu,mwu,mdu,he,w7,w54,owr,odr]
  refine callK_of (recSameC hS.toMr (hcu0.fr f5) (hr'.fr f45)) ?_
  rintro v g6 ⟨rfl,f6⟩
  have f46:=f45.trans f6
  obtain ⟨a1,a2,a3,a4,a5⟩:=goF _ f46
  by_cases hsm:sameR xu r=true
  case neg =>
   rw [Bool.not_eq_true] at hsm
   simp -dsimp only [go_sem,evLen,hsm]
   exact ⟨_,_,_,_,_,_,_,_,_,a4.trans e3,.inl ⟨rfl,go _ a1 a2 a3 a4 a5 _ hlo⟩⟩
  have w06:=(f46.get _ (by omega)).trans w0
  have w66:=(f46.get g.nx (by omega)).trans w6
  simp -dsimp only [go_sem,evLen,hsm,w06,w66,ow,od]
  have hxk:=(hx'.fr f46).col (K':=K) fun j _ hk=>Kb.z hk
  refine yldK_of (step _ _ x hxm a1 hxk) ?_
  rintro vv g7 (⟨rfl,hG7,k7⟩ | ⟨rfl,hX7,k7⟩)
  ·have k7':Gk (Kb K g1.nx (g1.nx+2)) g6 g7:=⟨k7.nx,fun j hj hk=>k7.get j hj (Kb.z hk)⟩
   have a7:=k7.nx
   simp -dsimp only [go_sem,evLen,hsm]
   exact ⟨_,_,_,_,_,_,_,_,_,((k7.get _ (by omega) (top _ (by omega))).trans a4).trans e3,.inl ⟨rfl,go _ hG7 (by omega) (a3.trans k7') ((k7.get _ (by omega) (top _ (by omega))).trans a4) ((k7.get _ (by omega) (top _ (by omega))).trans a5) _ hlo⟩⟩
  ·have a7:=k7.nx
   have b1:=(k7.get _ (by omega) (top _ (by omega))).trans a4
   have b2:=(k7.get _ (by omega) (top _ (by omega))).trans a5
   simp -dsimp only [go_sem,evLen,hsm]
   exact ⟨_,_,_,_,_,_,_,_,_,b1.trans e3,.inr ⟨rfl,(),_,_,_,_,_,_,_,hx _ _ hX7 (Nat.le_refl _) fun j hj=>AH.get_put_ne (by omega),AH.get_put_eq rfl,(AH.get_put_ne (by omega)).trans b2,(by show g1.nx+2≤g7.nx;omega),trivial⟩⟩
 ·exact ⟨hm h _ h00 (by have:=fin2.nx;omega) fun j hj=>(fin2.get j (by omega)).trans (f2.get j hj),AH.get_new_eq rfl,(AH.get_new_ne (by simp [AH.new])).trans (AH.get_new_eq rfl),by simp [AH.new],fin2.gk _⟩
 ·rintro v g3 (⟨hGg,hgl,hgd,hgn,hgk⟩ | ⟨pe,fn,te,n,ps,a,b,d,hX,hgl,hgd,hgn,_⟩)
  ·have hgl':g3.get (g1.new (AO.defs true)).nx=_:=hgl
   unfold loopTail
   rw [hgl',←hlo]
   have w2:∀o,(g3.put (g1.nx+1) o).get g1.nx=some (.defs true):=fun o=>(AH.get_put_ne (by omega)).trans hgd
   simp -dsimp only [go_sem,evLen,w2,takeMarks]
   exact .inl (hm _ _ hGg (Nat.le_refl _) fun j hj=>(AH.get_put_ne (by omega)).trans (AH.get_put_ne (by omega)))
  ·have hgl':g3.get (g1.new (AO.defs true)).nx=_:=hgl
   unfold loopTail
   rw [hgl']
   have w2:∀o,(g3.put (g1.nx+1) o).get g1.nx=some (.defs true):=fun o=>(AH.get_put_ne (by omega)).trans hgd
   simp -dsimp only [go_sem,evLen,w2,hgd,takeMarks]
   exact .inr (hx _ _ hX (Nat.le_refl _) fun j hj=>(AH.get_put_ne (by omega)).trans (AH.get_put_ne (by omega)))
end
section
variable {S : Sums}
theorem takenC (hS:Mo S) {K:Nat→Nat} {h:AH} {p:Nat} {l:List Hd} {cr:List AV} {r:Rc} (k:Ky) (hw:Vw K h p l) (hr:Ra K h cr r):RnC Tryz.prog S 65 [.ptr p 0,.agg [.int .i64 k.1,.str k.2.1,.str k.2.2],.agg cr] h fun v h'=>(∃b,v=.bool b∧(versF l k.2.1 k.2.2=[]→b=false))∧Fr h h':=by
 replace hw:=hw.col (K':=fun _=>0) fun _ _ _=>rfl
 replace hr:=hr.col (K':=fun _=>0) fun _ _ _=>rfl
 have hpn:=hw.choose_spec.choose_spec.2.1
 have hr0:=hr
 obtain ⟨w,d,rfl,hwv,hd,_⟩:=hr
 refine RnC.enter' Tryz.f65 _ 12 [.cell 6 4] (hS.no _ _ _ (by simp)) bd65 Tryz.func65 rfl rfl rfl ?_
 have ow:=hwv.ln.2.2.2
 have od:=hd.ln.2.2
 have mw:=oneM ow
 have md:=oneM od
 simp -dsimp only [go_sem,ow,od,mw,md]
 generalize hg:(((h.new (.cells [.int .i64 k.1,.str k.2.1,.str k.2.2] true false)).new (.cells [.str r.path,w,.int .i64 r.own,.bool r.gone,.int .i64 r.size,.int .i64 r.len,d] true false)).new (.cells [.bool false] true false))=g1
 have n1:g1.nx=h.nx+3:=by rw [←hg];rfl
 have f1:Fr h g1:=by rw [←hg];exact ((Fr.new _ _).news _).news _
 have q1:g1.get h.nx=some (.cells [.int .i64 k.1,.str k.2.1,.str k.2.2] true false):=by rw [←hg];exact (AH.get_new_ne (by simp [AH.new];omega)).trans ((AH.get_new_ne (by simp)).trans (AH.get_new_eq rfl))
 have q2:g1.get (h.nx+1)=some (.cells [.str r.path,w,.int .i64 r.own,.bool r.gone,.int .i64 r.size,.int .i64 r.len,d] true false):=by rw [←hg];exact (AH.get_new_ne (by simp [AH.new])).trans (AH.get_new_eq rfl)
 have q3:g1.get (h.nx+2)=some (.cells [.bool false] true false):=by rw [←hg];exact AH.get_new_eq rfl
 try simp -dsimp (disch:=repeat first|rw [nxn]|rw [nxp]|omega) only [go_sem,q1,q2]
 have hp1:∀j,j<h.nx→(fun _:Nat=>0) j=0→Kb (fun _=>0) (h.nx+2) (h.nx+3) j=0:=fun j hj _=>Kb.out (by omega)
 replace hw:=(hw.col hp1).fr f1
 replace hr0:=(hr0.col hp1).fr f1
 refine callK_of (sourcesC hS k hw hr0 fun j hj=>Kb.out (by omega)) ?_
 rintro v g2 ⟨⟨b3,cn,rfl,hb3,hb3',p1,p2,p3,hcn,p4⟩,f2⟩
 simp -dsimp (disch:=repeat first|rw [nxn]|rw [nxp]|omega) only [go_sem,evLen,loopHead,bd119]
 have n2:=f2.nx
 generalize hlo:AO.loop LoopState.ready none _ _ _ _ _ _ _=lo
 have hp2:∀j,j<g2.nx→Kb (fun _=>0) (h.nx+2) (h.nx+3) j=0→Kb (Kb (fun _=>0) (h.nx+2) (h.nx+3)) g2.nx (g2.nx+2) j=0:=fun j hj hh=>(Kb.out (.inl hj)).trans hh
 have kz:∀j,j≠h.nx+2→(j<g2.nx∨g2.nx+2≤j)→Kb (Kb (fun _=>0) (h.nx+2) (h.nx+3)) g2.nx (g2.nx+2) j=0:=fun j h1 h2=>by rw [Kb.out h2,Kb.out (by omega)]
 have k1n:Kb (Kb (fun _=>0) (h.nx+2) (h.nx+3)) g2.nx (g2.nx+2) (g2.nx+1)≠0:=Kb.in (by omega) (by omega)
 have k2n:Kb (Kb (fun _=>0) (h.nx+2) (h.nx+3)) g2.nx (g2.nx+2) (h.nx+2)≠0:=by rw [Kb.out (by omega)];exact Kb.in (by omega) (by omega)
 generalize Kb (Kb (fun _=>0) (h.nx+2) (h.nx+3)) g2.nx (g2.nx+2)=K' at *
 have fin2:Fr g2 ((g2.new (.defs true)).new lo):=(Fr.new _ _).news _
 have hw3:=((hw.fr f2).col hp2).fr fin2
 have hr3:=((hr0.fr f2).col hp2).fr fin2
 have hn3:=(hcn.col hp2).fr fin2
 have nn:((g2.new (.defs true)).new lo).nx=g2.nx+2:=rfl
 have frF:∀g,Gk K' g2 g→Fr h g:=fun g gk=>⟨by have:=gk.nx;omega,fun j hj=>(gk.get j (by omega) (kz j (by omega) (by omega))).trans ((f2.get j (by omega)).trans (f1.get j hj))⟩
 refine callK_of (sources1C hS (K:=K') (h:=(g2.new (.defs true)).new lo) (y:=g2.nx+1) (p:=p) (b1:=g1.nx) (b2:=g1.nx+1) (b3:=b3) (b4:=g1.nx+2) (l:=l) (k:=k) (u:=(nowF l k).1) (r:=r)
  (fun g=>g.get (h.nx+2)=some (.cells [.bool false] true false)∧g.get (g2.nx+1)=some lo∧g.get g2.nx=some (.defs true)∧g2.nx+2≤g.nx∧Gk K' g2 g)
  (fun g=>∃fn te n ps a b d,versF l k.2.1 k.2.2≠[]∧g.get (h.nx+2)=some (.cells [.bool true] true false)∧g.get (g2.nx+1)=some (.loop .done (some .ret) fn te n ps a b d)∧g.get g2.nx=some (.defs true)∧g2.nx+2≤g.nx∧Gk K' g2 g)
  hw3 (kz _ (by omega) (by omega)) ((fin2.get _ (by omega)).trans p1) ((fin2.get _ (by omega)).trans p2) ((fin2.get _ (by omega)).trans p3) ((fin2.get _ (by omega)).trans p4) hn3 hr3 ⟨by omega,by omega,by omega,by omega⟩ ⟨kz _ (by omega) (by omega),kz _ (by omega) (by omega),kz _ (by omega) (by omega),kz _ (by omega) (by omega)⟩ (fun j hj=>kz j (by omega) (by omega)) ?_ ?_ ?_ ?_ ?_) ?_
 ·rintro g g' ⟨a1,a2,a3,a4,a5⟩ hn ff
  exact ⟨(ff _ (by omega)).trans a1,(ff _ (by omega)).trans a2,(ff _ (by omega)).trans a3,by omega,Nat.le_trans a5.nx hn,fun j hj hk=>(ff j (by omega)).trans (a5.get j hj hk)⟩
 ·rintro g g' ⟨fn,te,n,ps,a,b,d,a0,a1,a2,a3,a4,a5⟩ hn ff
  exact ⟨fn,te,n,ps,a,b,d,a0,(ff _ (by omega)).trans a1,(ff _ (by omega)).trans a2,(ff _ (by omega)).trans a3,by omega,Nat.le_trans a5.nx hn,fun j hj hk=>(ff j (by omega)).trans (a5.get j hj hk)⟩
 ·rintro g ⟨fn,te,n,ps,a,b,d,a0,a1,a2,a3,a4,a5⟩
  exact a4
 ·rintro g cs x hxm ⟨a1,a2,a3,a4,a5⟩ hxr
  rw [←hlo] at a2
  refine RnR.enter a2 (by simp [setArgs];rfl) ?_
  simp -dsimp (disch:=repeat first|rw [nxn]|rw [nxp]|omega) only [go_sem,evLen]
  refine ⟨rfl,_,_,_,_,_,_,_,_,a2,?_⟩
  refine busy_gen ?_
  intro gb e1 e2 e3
  dsimp only at e1 e2 e3
  have c1:gb.get (h.nx+1+1)=some (.cells [.bool false] true false):=(e2 (h.nx+2) (by omega)).trans a1
  have c2:=(e2 g2.nx (by omega)).trans a3
  have c3:Gk K' g gb:=⟨by omega,fun j hj hk=>e2 j fun hh=>k1n (hh▸hk)⟩
  simp -dsimp (disch:=repeat first|rw [nxn]|rw [nxp]|omega) only [go_sem,evLen,c1]
  have c4:Gk K' g (gb.put (h.nx+1+1) (.cells [.bool true] true false)):=c3.put (.inl k2n) _
  have c5:=a5.trans c4
  exact ⟨_,_,_,_,_,_,_,_,_,(AH.get_put_ne (by omega)).trans e3,.inr ⟨rfl,⟨_,_,_,_,_,_,_,fun hh=>(by rw [hh] at hxm;cases hxm),(AH.get_put_ne (by omega)).trans (AH.get_put_eq rfl),AH.get_put_eq rfl,(AH.get_put_ne (by omega)).trans ((AH.get_put_ne (by omega)).trans c2),(by show g2.nx+2≤gb.nx;omega),c5.put (.inl k1n) _⟩,c4.put (.inl k1n) _⟩⟩
 ·exact ⟨(fin2.get _ (by omega)).trans ((f2.get _ (by omega)).trans q3),AH.get_new_eq rfl,(AH.get_new_ne (by simp [AH.new])).trans (AH.get_new_eq rfl),by omega,fin2.gk _⟩
 ·rintro v g3 (⟨a1,a2,a3,a4,a5⟩ | ⟨fn,te,n,ps,a,b,d,a0,a1,a2,a3,a4,a5⟩)
  ·have a2':g3.get (g2.new (AO.defs true)).nx=_:=a2
   unfold loopTail
   rw [a2',←hlo]
   have w2:∀o,(g3.put (g2.nx+1) o).get g2.nx=some (.defs true):=fun o=>(AH.get_put_ne (by omega)).trans a3
   have w3:∀o o2,((g3.put (g2.nx+1) o).put g2.nx o2).get (h.nx+1+1)=some (.cells [.bool false] true false):=fun o o2=>(AH.get_put_ne (by omega)).trans ((AH.get_put_ne (by omega)).trans a1)
   have a1':g3.get (h.nx+1+1)=_:=a1
   simp -dsimp (disch:=repeat first|rw [nxn]|rw [nxp]|omega) only [go_sem,evLen,w2,w3,a1',takeMarks]
   have f5:=frF _ a5
   exact ⟨⟨false,rfl,fun _=>rfl⟩,⟨f5.nx,fun j hj=>(AH.get_put_ne (by omega)).trans ((AH.get_put_ne (by omega)).trans ((AH.get_put_ne (by omega)).trans (f5.get j hj)))⟩⟩
  ·have a2':g3.get (g2.new (AO.defs true)).nx=_:=a2
   unfold loopTail
   rw [a2']
   have w2:∀o,(g3.put (g2.nx+1) o).get g2.nx=some (.defs true):=fun o=>(AH.get_put_ne (by omega)).trans a3
   have w3:∀o o2,((g3.put (g2.nx+1) o).put g2.nx o2).get (h.nx+1+1)=some (.cells [.bool true] true false):=fun o o2=>(AH.get_put_ne (by omega)).trans ((AH.get_put_ne (by omega)).trans a1)
   have a1':g3.get (h.nx+1+1)=_:=a1
   simp -dsimp only [go_sem,evLen,w2,w3,a1',takeMarks]
   have f5:=frF _ a5
   exact ⟨⟨true,rfl,fun hh=>(a0 hh).elim⟩,⟨f5.nx,fun j hj=>(AH.get_put_ne (by omega)).trans ((AH.get_put_ne (by omega)).trans (f5.get j hj))⟩⟩
end
theorem Ra.sv {K:Nat→Nat} {h:AH} {cs:List AV} {x:Rc} (hx:Ra K h cs x):sameAV 20 (.agg cs) (.agg cs)=true:=by
 obtain ⟨v,d,rfl,hv,hd,_⟩:=hx
 rcases flShape hv.1 with ⟨rfl,_⟩ | ⟨_,_,_,_,rfl⟩ <;> rcases flShape hd.1 with ⟨rfl,_⟩ | ⟨_,_,_,_,rfl⟩ <;> simp [sameAV,Go.Abs.sameL]
section
variable {S : Sums}
theorem someC (hS:Mo S) {K:Nat→Nat} {h:AH} {p:Nat} {l:List Hd} {cr:List AV} {r:Rc} {wb:Bool} (k:Ky) (hw:Vw K h p l) (hr:Ra K h cr r):RnC Tryz.prog S 68 [.ptr p 0,.agg [.int .i64 k.1,.str k.2.1,.str k.2.2],.agg cr,.bool wb] h fun v h'=>(∃b,v=.bool b∧(versF l k.2.1 k.2.2=[]→b=false))∧Fr h h':=by
 replace hw:=hw.col (K':=fun _=>0) fun _ _ _=>rfl
 replace hr:=hr.col (K':=fun _=>0) fun _ _ _=>rfl
 have hpn:=hw.choose_spec.choose_spec.2.1
 have hr0:=hr
 obtain ⟨w,d,rfl,hwv,hd,_⟩:=hr
 refine RnC.enter' Tryz.f68 _ 22 [.cell 8 4] (hS.no _ _ _ (by simp)) bd68 Tryz.func68 rfl rfl rfl ?_
 have ow:=hwv.ln.2.2.2
 have od:=hd.ln.2.2
 have mw:=oneM ow
 have md:=oneM od
 simp -dsimp (disch:=repeat first|rw [nxn]|rw [nxp]|omega) only [go_sem,ow,od,mw,md]
 generalize hg:(((((h.new (.cells [.ptr p 0] true false)).new (.cells [.int .i64 k.1,.str k.2.1,.str k.2.2] true false)).new (.cells [.str r.path,w,.int .i64 r.own,.bool r.gone,.int .i64 r.size,.int .i64 r.len,d] true false)).new (.cells [.bool wb] true false)).new (.cells [.bool false] true false))=g1
 have n1:g1.nx=h.nx+5:=by rw [←hg];rfl
 have f1:Fr h g1:=by rw [←hg];exact ((((Fr.new _ _).news _).news _).news _).news _
 have q0:g1.get h.nx=some (.cells [.ptr p 0] true false):=by rw [←hg];exact (AH.get_new_ne (by first | (simp [AH.new];done) | (simp [AH.new];omega))).trans ((AH.get_new_ne (by first | (simp [AH.new];done) | (simp [AH.new];omega))).trans ((AH.get_new_ne (by first | (simp [AH.new];done) | (simp [AH.new];omega))).trans ((AH.get_new_ne (by simp [AH.new])).trans (AH.get_new_eq rfl))))
 have q1:g1.get (h.nx+1)=some (.cells [.int .i64 k.1,.str k.2.1,.str k.2.2] true false):=by rw [←hg];exact (AH.get_new_ne (by first | (simp [AH.new];done) | (simp [AH.new];omega))).trans ((AH.get_new_ne (by first | (simp [AH.new];done) | (simp [AH.new];omega))).trans ((AH.get_new_ne (by simp [AH.new])).trans (AH.get_new_eq rfl)))
 have q2:g1.get (h.nx+1+1)=some (.cells [.str r.path,w,.int .i64 r.own,.bool r.gone,.int .i64 r.size,.int .i64 r.len,d] true false):=by rw [←hg];exact (AH.get_new_ne (by first | (simp [AH.new];done) | (simp [AH.new];omega))).trans ((AH.get_new_ne (by simp [AH.new])).trans (AH.get_new_eq rfl))
 have qw:g1.get (h.nx+1+1+1)=some (.cells [.bool wb] true false):=by rw [←hg];exact (AH.get_new_ne (by simp [AH.new])).trans (AH.get_new_eq rfl)
 have q3:g1.get (h.nx+4)=some (.cells [.bool false] true false):=by rw [←hg];exact AH.get_new_eq rfl
 try simp -dsimp (disch:=repeat first|rw [nxn]|rw [nxp]|omega) only [go_sem,q0,q1,q2]
 have hp1:∀j,j<h.nx→(fun _:Nat=>0) j=0→Kb (fun _=>0) (h.nx+4) (h.nx+5) j=0:=fun j hj _=>Kb.out (by omega)
 replace hw:=(hw.col hp1).fr f1
 replace hr0:=(hr0.col hp1).fr f1
 refine callK_of (sourcesC hS k hw hr0 fun j hj=>Kb.out (by omega)) ?_
 rintro v g2 ⟨⟨b3,cn,rfl,hb3,hb3',p1,p2,p3,hcn,p4⟩,f2⟩
 simp -dsimp (disch:=repeat first|rw [nxn]|rw [nxp]|omega) only [go_sem,evLen,loopHead,bd119]
 have n2:=f2.nx
 generalize hlo:AO.loop LoopState.ready none _ _ _ _ _ _ _=lo
 have hp2:∀j,j<g2.nx→Kb (fun _=>0) (h.nx+4) (h.nx+5) j=0→Kb (Kb (fun _=>0) (h.nx+4) (h.nx+5)) g2.nx (g2.nx+2) j=0:=fun j hj hh=>(Kb.out (.inl hj)).trans hh
 have kz:∀j,j≠h.nx+4→(j<g2.nx∨g2.nx+2≤j)→Kb (Kb (fun _=>0) (h.nx+4) (h.nx+5)) g2.nx (g2.nx+2) j=0:=fun j h1 h2=>by rw [Kb.out h2,Kb.out (by omega)]
 have k1n:Kb (Kb (fun _=>0) (h.nx+4) (h.nx+5)) g2.nx (g2.nx+2) (g2.nx+1)≠0:=Kb.in (by omega) (by omega)
 have k2n:Kb (Kb (fun _=>0) (h.nx+4) (h.nx+5)) g2.nx (g2.nx+2) (h.nx+4)≠0:=by rw [Kb.out (by omega)];exact Kb.in (by omega) (by omega)
 generalize Kb (Kb (fun _=>0) (h.nx+4) (h.nx+5)) g2.nx (g2.nx+2)=K' at *
 have fin2:Fr g2 ((g2.new (.defs true)).new lo):=(Fr.new _ _).news _
 have hw3:=((hw.fr f2).col hp2).fr fin2
 have hr3:=((hr0.fr f2).col hp2).fr fin2
 have hn3:=(hcn.col hp2).fr fin2
 have nn:((g2.new (.defs true)).new lo).nx=g2.nx+2:=rfl
 have frF:∀g,Gk K' g2 g→Fr h g:=fun g gk=>⟨by have:=gk.nx;omega,fun j hj=>(gk.get j (by omega) (kz j (by omega) (by omega))).trans ((f2.get j (by omega)).trans (f1.get j hj))⟩
 refine callK_of (sources1C hS (K:=K') (h:=(g2.new (.defs true)).new lo) (y:=g2.nx+1) (p:=p) (b1:=g1.nx) (b2:=g1.nx+1) (b3:=b3) (b4:=g1.nx+2) (l:=l) (k:=k) (u:=(nowF l k).1) (r:=r)
  (fun g=>g.get (h.nx+4)=some (.cells [.bool false] true false)∧g.get (g2.nx+1)=some lo∧g.get g2.nx=some (.defs true)∧g2.nx+2≤g.nx∧Gk K' g2 g)
  (fun g=>∃fn te n ps a b d,versF l k.2.1 k.2.2≠[]∧g.get (h.nx+4)=some (.cells [.bool true] true false)∧g.get (g2.nx+1)=some (.loop .done (some .ret) fn te n ps a b d)∧g.get g2.nx=some (.defs true)∧g2.nx+2≤g.nx∧Gk K' g2 g)
  hw3 (kz _ (by omega) (by omega)) ((fin2.get _ (by omega)).trans p1) ((fin2.get _ (by omega)).trans p2) ((fin2.get _ (by omega)).trans p3) ((fin2.get _ (by omega)).trans p4) hn3 hr3 ⟨by omega,by omega,by omega,by omega⟩ ⟨kz _ (by omega) (by omega),kz _ (by omega) (by omega),kz _ (by omega) (by omega),kz _ (by omega) (by omega)⟩ (fun j hj=>kz j (by omega) (by omega)) ?_ ?_ ?_ ?_ ?_) ?_
 ·rintro g g' ⟨a1,a2,a3,a4,a5⟩ hn ff
  exact ⟨(ff _ (by omega)).trans a1,(ff _ (by omega)).trans a2,(ff _ (by omega)).trans a3,by omega,Nat.le_trans a5.nx hn,fun j hj hk=>(ff j (by omega)).trans (a5.get j hj hk)⟩
 ·rintro g g' ⟨fn,te,n,ps,a,b,d,a0,a1,a2,a3,a4,a5⟩ hn ff
  exact ⟨fn,te,n,ps,a,b,d,a0,(ff _ (by omega)).trans a1,(ff _ (by omega)).trans a2,(ff _ (by omega)).trans a3,by omega,Nat.le_trans a5.nx hn,fun j hj hk=>(ff j (by omega)).trans (a5.get j hj hk)⟩
 ·rintro g ⟨fn,te,n,ps,a,b,d,a0,a1,a2,a3,a4,a5⟩
  exact a4
 ·rintro g cs x hxm ⟨a1,a2,a3,a4,a5⟩ hxr
  rw [←hlo] at a2
  have hxr0:=hxr
  obtain ⟨wx,dx,rfl,hwx,hdx,_⟩:=hxr
  have ox:=hwx.ln.2.2.2
  have odx:=hdx.ln.2.2
  have mx:=oneM ox
  have mdx:=oneM odx
  refine RnR.enter a2 (by simp [setArgs];rfl) ?_
  simp -dsimp (disch:=repeat first|rw [nxn]|rw [nxp]|omega) only [go_sem,evLen,ox,odx,mx,mdx]
  refine ⟨rfl,_,_,_,_,_,_,_,_,(AH.get_put_ne (by omega)).trans ((AH.get_new_ne (by omega)).trans a2),?_⟩
  refine busy_gen ?_
  intro gb e1 e2 e3
  dsimp only at e1 e2 e3
  have e1':gb.nx=g.nx+1:=e1
  have c3:Gk K' g gb:=⟨by omega,fun j hj hk=>(e2 j fun hh=>k1n (hh▸hk)).trans ((AH.get_put_ne (by omega)).trans (AH.get_new_ne (by omega)))⟩
  have bx:∀j o,j<g1.nx→j≠h.nx+4→g1.get j=some o→gb.get j=some o:=fun j o h1 h2 h3=>(c3.get j (by omega) (kz j h2 (by omega))).trans ((a5.get j (by omega) (kz j h2 (by omega))).trans ((f2.get j h1).trans h3))
  have z0:=bx _ _ (by omega) (by omega) q0
  have z1:=bx _ _ (by omega) (by omega) q1
  have z2:=bx _ _ (by omega) (by omega) q2
  have zw:=bx _ _ (by omega) (by omega) qw
  have zx:gb.get g.nx=some (.cells [.str x.path,wx,.int .i64 x.own,.bool x.gone,.int .i64 x.size,.int .i64 x.len,dx] true false):=(e2 _ (by omega)).trans (AH.get_put_eq rfl)
  have c1:gb.get (h.nx+4)=some (.cells [.bool false] true false):=(e2 (h.nx+4) (by omega)).trans ((AH.get_put_ne (by omega)).trans ((AH.get_new_ne (by omega)).trans a1))
  have c2:gb.get g2.nx=some (.defs true):=(e2 g2.nx (by omega)).trans ((AH.get_put_ne (by omega)).trans ((AH.get_new_ne (by omega)).trans a3))
  simp -dsimp (disch:=repeat first|rw [nxn]|rw [nxp]|omega) only [go_sem,evLen]
  refine syDraw.keep (fun j=>j=h.nx∨j=h.nx+1∨j=g.nx∨j=h.nx+1+1∨j=h.nx+1+1+1) (by kernel_rfl) (by kernel_rfl) ?_
  have fx:Fr gb { tr:=gb.tr,nx:=gb.nx+7 }:=(Fr.refl gb).more _ (by omega)
  simp -dsimp (disch:=repeat first|rw [nxn]|rw [nxp]|omega) only [go_sem,evLen,z0,z1,z2,zw,zx,ow,od,ox,odx,true_and,true_or,or_true,implies_true,svi,svb,svs,svp,svk,hxr0.sv,hr0.sv]
  have hwg:=((((hw.fr f2).col hp2).gk a5 (kz _ (by omega) (by omega))).gk c3 (kz _ (by omega) (by omega))).fr fx
  have hrg:=((((hr0.fr f2).col hp2).gk a5).gk c3).fr fx
  refine callK_of (keepsC hS k hwg ((hxr0.gk c3).fr fx) hrg fun j hj=>kz j (by simp at hj;omega) (by simp at hj;omega)) ?_
  rintro v g6 ⟨⟨bb,rfl⟩,f6'⟩
  have f6:=fx.trans f6'
  have n6:=f6.nx
  have c6:=c3.trans (f6.gk K')
  have d1:g6.get (h.nx+1+1+1+1)=some (.cells [.bool false] true false):=(f6.get _ (by omega)).trans c1
  have d2:=(f6.get _ (by omega)).trans c2
  have d3:=(f6.get _ (by omega)).trans e3
  have dw:=(f6.get _ (by omega)).trans zw
  have c7:=a5.trans c6
  refine ⟨fun j' hj'=>f6'.get j' (by show j'<gb.nx+7;rcases hj' with rfl | rfl | rfl | rfl | rfl <;> omega),?_⟩
  by_cases hbw:bb=wb
  ·subst hbw
   simp -dsimp (disch:=repeat first|rw [nxn]|rw [nxp]|omega) only [go_sem,evLen,d1,dw,eqBool,decide_true,true_and,true_or,or_true,implies_true,svi,svb,svs,svp]
   have c4:Gk K' g (g6.put (h.nx+1+1+1+1) (.cells [.bool true] true false)):=c6.put (.inl k2n) _
   have c5:=a5.trans c4
   exact ⟨_,_,_,_,_,_,_,_,_,(AH.get_put_ne (by omega)).trans d3,.inr ⟨rfl,⟨_,_,_,_,_,_,_,fun hh=>(by rw [hh] at hxm;cases hxm),(AH.get_put_ne (by omega)).trans (AH.get_put_eq rfl),AH.get_put_eq rfl,(AH.get_put_ne (by omega)).trans ((AH.get_put_ne (by omega)).trans d2),(by show g2.nx+2≤g6.nx;omega),c5.put (.inl k1n) _⟩,c4.put (.inl k1n) _⟩⟩
  ·simp -dsimp (disch:=repeat first|rw [nxn]|rw [nxp]|omega) only [go_sem,evLen,d1,dw,eqBool,decide_eq_false hbw,true_and,true_or,or_true,implies_true,svi,svb,svs,svp]
   exact ⟨_,_,_,_,_,_,_,_,_,d3,.inl ⟨rfl,⟨(AH.get_put_ne (by omega)).trans d1,by rw [←hlo];exact AH.get_put_eq rfl,(AH.get_put_ne (by omega)).trans d2,(by show g2.nx+2≤g6.nx;omega),c7.put (.inl k1n) _⟩,c6.put (.inl k1n) _⟩⟩
 ·exact ⟨(fin2.get _ (by omega)).trans ((f2.get _ (by omega)).trans q3),AH.get_new_eq rfl,(AH.get_new_ne (by simp [AH.new])).trans (AH.get_new_eq rfl),by omega,fin2.gk _⟩
 ·rintro v g3 (⟨a1,a2,a3,a4,a5⟩ | ⟨fn,te,n,ps,a,b,d,a0,a1,a2,a3,a4,a5⟩)
  ·have a2':g3.get (g2.new (AO.defs true)).nx=_:=a2
   unfold loopTail
   rw [a2',←hlo]
   have w2:∀o,(g3.put (g2.nx+1) o).get g2.nx=some (.defs true):=fun o=>(AH.get_put_ne (by omega)).trans a3
   have w3:∀o o2,((g3.put (g2.nx+1) o).put g2.nx o2).get (h.nx+1+1+1+1)=some (.cells [.bool false] true false):=fun o o2=>(AH.get_put_ne (by omega)).trans ((AH.get_put_ne (by omega)).trans a1)
   have a1':g3.get (h.nx+1+1+1+1)=_:=a1
   simp -dsimp (disch:=repeat first|rw [nxn]|rw [nxp]|omega) only [go_sem,evLen,w2,w3,a1',takeMarks]
   have f5:=frF _ a5
   exact ⟨⟨false,rfl,fun _=>rfl⟩,⟨f5.nx,fun j hj=>(AH.get_put_ne (by omega)).trans ((AH.get_put_ne (by omega)).trans ((AH.get_put_ne (by omega)).trans (f5.get j hj)))⟩⟩
  ·have a2':g3.get (g2.new (AO.defs true)).nx=_:=a2
   unfold loopTail
   rw [a2']
   have w2:∀o,(g3.put (g2.nx+1) o).get g2.nx=some (.defs true):=fun o=>(AH.get_put_ne (by omega)).trans a3
   have w3:∀o o2,((g3.put (g2.nx+1) o).put g2.nx o2).get (h.nx+1+1+1+1)=some (.cells [.bool true] true false):=fun o o2=>(AH.get_put_ne (by omega)).trans ((AH.get_put_ne (by omega)).trans a1)
   have a1':g3.get (h.nx+1+1+1+1)=_:=a1
   simp -dsimp (disch:=repeat first|rw [nxn]|rw [nxp]|omega) only [go_sem,evLen,w2,w3,a1',takeMarks]
   have f5:=frF _ a5
   exact ⟨⟨true,rfl,fun hh=>(a0 hh).elim⟩,⟨f5.nx,fun j hj=>(AH.get_put_ne (by omega)).trans ((AH.get_put_ne (by omega)).trans (f5.get j hj))⟩⟩
end
end Go.Proofs.YtihigekgnnoejaaGreatDoor.mdl
end