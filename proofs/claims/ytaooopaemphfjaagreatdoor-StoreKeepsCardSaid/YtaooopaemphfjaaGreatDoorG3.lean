/- Texts joined: RAg, RAh, RAi, RBa, RBb, RBc, RBd, RBe, RKa. -/
import Derived.Test.YtaooopaemphfjaaGreatDoorG1
set_option maxRecDepth 100000
set_option linter.unusedVariables false
set_option linter.unusedSimpArgs false
set_option maxHeartbeats 16000000
section
namespace Go.Proofs.YtaooopaemphfjaaGreatDoor.tbl
open Go Go.Abs Go.Abs.Rec Go.Proofs
theorem ezPut {z n0:Nat} {h:AH} {v:AV} {l:List AV} {j:Nat} {o:AO} (hb:Ez z n0 h v l) (hj:j<n0):Ez z n0 (h.put j o) v l:=by
 rcases hb with h1 | ⟨id,n,c,tx,h1,h2,h3,h4,h5⟩
 ·exact .inl h1
 ·exact .inr ⟨id,n,c,tx,h1,(AH.get_put_ne (by omega)).trans h2,h3,h4,h5⟩
theorem ezGe {z n0:Nat} {h:AH} {v:AV} {l:List AV} (hb:Ez z n0 h v l) {id o n z':Nat} {c:Option Nat} (hv:v=.sl id o n z' c):n0≤id:=by
 rcases hb with ⟨h1,_⟩ | ⟨id',n',c',tx,h1,h2,h3,h4,h5⟩
 ·rw [h1] at hv;cases hv
 ·rw [h1] at hv;cases hv;exact h4
theorem ezShape {z n0:Nat} {h:AH} {v:AV} {l:List AV} (hb:Ez z n0 h v l):v=.nilsl∨∃id n c,v=.sl id 0 n z c:=by
 rcases hb with ⟨h1,_⟩ | ⟨id,n,c,tx,h1,_⟩
 ·exact .inl h1
 ·exact .inr ⟨id,n,c,h1⟩
theorem bldT3 {v:AV} (hv:v=.nilsl∨∃id n c,v=.sl id 0 n 3 c):evBuild Tryz.prog 47 [(0,v)]=some (.agg [v]):=by
 rcases hv with rfl | ⟨id,n,c,rfl⟩ <;> kernel_rfl
theorem psShape {h:AH} {v:AV} {l:KL (List Nat×Bool)} (hb:Ps h v l):v=.nilsl∨∃id o n c,v=.sl id o n 3 c:=by
 rcases hb with ⟨h1,_⟩ | ⟨id,off,c,cs,o,tx,h1,_⟩
 ·exact .inl h1
 ·exact .inr ⟨id,off,_,c,h1⟩
section
variable {S : Sums}
structure Td (S:Sums):Prop extends Tb S where
 nd:∀f args h,f∈[82,45,44,11,7,22]→S f args h=none
theorem placeC (hS:Td S) {h:AH} {lv:AV} {l:KL (List Nat×Bool)} (k:List Nat) (hv:Ps h lv l) (hl:l.length≤1000000):RnC Tryz.prog S 82 [.agg [lv],.str k] h fun r h'=>r=.int .i64 (plcP l k:Nat)∧Fr h h':=by
 refine RnC.enter' Tryz.f82 _ 24 [.tmp 4] (hS.nd _ _ _ (by simp)) bd82 Tryz.func82 rfl rfl rfl ?_
 obtain ⟨lln,sl,ol⟩:=hv.ln
 have om:=ol
 unfold oneA at om
 have f1:Fr h (h.new (.cells [lv] true false)):=Fr.new _ _
 simp -dsimp (disch:=(repeat first | rw [nxn] | rw [nxp]);try omega) only [go_sem,ol,om]
 refine loopK_of (RnL.rounds (Q:=fun ex u=>ex=.exit 0∧u.d=[]∧u.h=h.new (.cells [lv] true false)∧u.t.get 5=some (.int .i64 (plcP l k:Nat)))
  (fun m u=>u.d=[]∧u.h=h.new (.cells [lv] true false)∧u.t.get 2=some (.ptr h.nx 0)∧u.t.get 1=some (.str k)∧∃i:Nat,u.t.get 5=some (.int .i64 (i:Nat))∧i≤l.length∧(∀j e,j<i→l[j]? = some e→lessA e.1 k=true)∧m=l.length-i) ?_ l.length ?_) ?_
 ·rintro m ⟨tt,g,d⟩ ⟨e2,e1,g2,g1,i,g5,hi,hall,rfl⟩
  dsimp only at e1 e2 g2 g1 g5
  subst e1 e2
  by_cases c4:(i:Int)<(l.length:Nat)
  ·have hil:i<l.length:=by omega
   obtain ⟨p,hp⟩:∃p,l[i]? = some p:=⟨_,List.getElem?_eq_getElem hil⟩
   obtain ⟨id,off,c,cs,o,tx,rfl,hgi,hidl,hle,hx,x0,x1,x2⟩:=Ps.at hv hp
   have hgx:(h.new (.cells [.sl id off l.length 3 c] true false)).get id=_:=(f1.get id hidl).trans hgi
   cases hlt:lessA p.1 k
   ·have:plcP l k=i:=plcP_eq hi hall fun e he=>by rw [hp] at he;cases he;exact hlt
    simp -dsimp (disch:=(repeat first | rw [nxn] | rw [nxp]);try omega) only [go_sem,lln,c4,hil,hgi,x0,ltSt,hlt,g1,g2,g5]
    exact ⟨trivial,trivial,trivial,by rw [this]⟩
   ·simp -dsimp (disch:=(repeat first | rw [nxn] | rw [nxp]);try omega) only [go_sem,lln,c4,hil,hgi,x0,ltSt,hlt,g1,g2,g5]
    refine ⟨l.length-(i+1),by omega,trivial,trivial,trivial,trivial,i+1,rfl,by omega,fun j e hj he=>?_,rfl⟩
    by_cases hji:j=i
    ·subst hji;rw [hp] at he;cases he;exact hlt
    ·exact hall j e (by omega) he
  ·have:i=l.length:=by omega
   subst this
   have:plcP l k=l.length:=plcP_eq (Nat.le_refl _) hall fun e he=>by
    have:=(List.getElem?_eq_some_iff.1 he).1
    omega
   simp -dsimp (disch:=(repeat first | rw [nxn] | rw [nxp]);try omega) only [go_sem,lln,c4,ol,g1,g2,g5]
   exact ⟨trivial,trivial,trivial,by rw [this]⟩
 ·simp -dsimp (disch:=(repeat first | rw [nxn] | rw [nxp]);try omega) only [go_sem]
  exact ⟨trivial,trivial,trivial,trivial,0,rfl,Nat.zero_le _,fun j e hj=>absurd hj (Nat.not_lt_zero _),rfl⟩
 ·rintro ex ⟨tt,g,d⟩ ⟨rfl,rfl,e1,g5⟩
  dsimp only at e1 g5
  subst e1
  simp -dsimp (disch:=(repeat first | rw [nxn] | rw [nxp]);try omega) only [go_sem,g5]
  exact ⟨by first | trivial | rfl,f1⟩
theorem putD (hS:Td S) {h:AH} {lv:AV} {l:KL (List Nat×Bool)} (k x:List Nat) (hv:Ps h lv l) (hl:l.length≤100000):RnC Tryz.prog S 45 [.agg [lv],.str k,.str x] h fun r h'=>(∃v',r=.agg [v']∧Ps h' v' (putP l k (x,false))∧∀id o n z c,v'=.sl id o n z c→h.nx≤id)∧Fr h h':=by
 refine RnC.enter' Tryz.f45 _ 47 [.cell 6 47] (hS.nd _ _ _ (by simp)) bd45 Tryz.func45 rfl rfl rfl ?_
 obtain ⟨lln,sl,ol⟩:=hv.ln
 have om:=ol
 unfold oneA at om
 have ha1:∀(o1 o2:AO),((h.new o1).new o2).get h.nx=some o1:=fun o1 o2=>(AH.get_new_ne (by simp)).trans (AH.get_new_eq rfl)
 simp -dsimp (disch:=(repeat first | rw [nxn] | rw [nxp]);try omega) only [go_sem,ol,om,ha1]
 generalize hg:((h.new (.cells [lv] true false)).new (.cells [.nilsl] true false))=g
 have ng:g.nx=h.nx+2:=by rw [←hg];rfl
 have fg:Fr h g:=by rw [←hg];exact (Fr.new _ _).news _
 have c0:g.get h.nx=some (.cells [lv] true false):=by rw [←hg];exact ha1 _ _
 have c1:g.get (h.nx+1)=some (.cells [.nilsl] true false):=by rw [←hg];exact AH.get_new_eq rfl
 refine callK_of (placeC hS k (hv.fr fg) (by omega)) ?_
 rintro w g2 ⟨rfl,f2⟩
 have hpl:=plcP_le l k
 have hpd:=put_doc k ((x,false):List Nat×Bool) l
 have hpa:∀p,l[plcP l k]? = some p→lessA p.1 k=false:=fun p hp=>plcP_at hp
 generalize plcP l k=n at hpl hpd hpa
 have c02:=(f2.get _ (by omega)).trans c0
 have c12:=(f2.get _ (by omega)).trans c1
 have n2:=f2.nx
 have hv2:=(hv.fr fg).fr f2
 obtain ⟨vt,t1,t2,t3,t4⟩:=hv2.to hpl
 have f3a:Fr g2 (g2.new (.cells [] true true)):=Fr.new _ _
 obtain ⟨v3,g3,ha3,f3,hz3,o3⟩:=appP (h0:=g2) (ez0 g2) (t2.fr f3a) f3a (by simp;omega)
 rw [List.nil_append] at hz3
 have c03:=(f3.get _ (by omega)).trans c02
 have n3:=f3.nx
 have f4a:Fr g3 (g3.new (.cells [.str k,.str x,.bool false] true false)):=Fr.new _ _
 obtain ⟨v4,g4,ha4,f4,hz4,o4⟩:=appP (h0:=g2) (hz3.fr f4a) (ps1 (p:=(k,(x,false))) (AH.get_new_eq rfl) (Nat.lt_succ_self _)) (f3.trans f4a) (by simp;omega)
 have c04:g4.get h.nx=_:=(f4.get _ (by omega)).trans c02
 have c14:g4.get (h.nx+1)=_:=(f4.get _ (by omega)).trans c12
 have n4:=f4.nx
 have bP:=bldP2 k x
 have hv4:=hv2.fr f4
 have key:∀m:Nat,m≤l.length→putP l k (x,false)=l.take n++(k,(x,false))::l.drop m→∃v5 g5 vf,(∀h1,evSlice Tryz.prog h1 22 lv (some (.int .i64 (m:Nat))) none none=some vf)∧oneA vf=true∧evAppend Tryz.prog g4 #[22,22] v4 vf=some (.val v5 g5)∧Fr g2 g5∧Ez 3 g2.nx g5 v5 ((putP l k (x,false)).flatMap pc)∧oneA v5=true∧g5.get (h.nx+1)=some (.cells [.nilsl] true false):=fun m hm he=>by
  obtain ⟨vf,s1,s2,s3,s4⟩:=hv4.frm hm
  obtain ⟨v5,g5,ha5,f5,hz5,o5⟩:=appP (h0:=g2) hz4 s2 f4 (by simp;omega)
  refine ⟨v5,g5,vf,s1,s3,ha5,f5,?_,o5,(f5.get _ (by omega)).trans c12⟩
  rw [he]
  have:l.take n++(k,(x,false))::l.drop m=l.take n++[(k,(x,false))]++l.drop m:=by simp
  rw [this];exact hz5
 have fin:∀(v5:AV) (g5:AH) (o:AO),Fr g2 g5→Ez 3 g2.nx g5 v5 ((putP l k (x,false)).flatMap pc)→Ps (g5.put (h.nx+1) o) v5 (putP l k (x,false))∧Fr h (g5.put (h.nx+1) o):=fun v5 g5 o f5 hz5 =>
  ⟨Ps.of (ezPut hz5 (by omega)),((fg.trans f2).trans f5).put _ (by omega)⟩
 have shv:oneA v4=true:=o4
 by_cases hk:(l[n]?).map (·.1)=some k
 ·rw [if_pos hk] at hpd
  have hnl:n<l.length:=by
   rcases Nat.lt_or_ge n l.length with h1 | h1
   ·exact h1
   ·rw [List.getElem?_eq_none h1] at hk;cases hk
  obtain ⟨p,hp⟩:∃p,l[n]? = some p:=⟨_,List.getElem?_eq_getElem hnl⟩
  rw [hp] at hk
  have hpk:p.1=k:=by simpa using hk
  have hkd:decide (p.1=k)=true:=by simpa using hpk
  obtain ⟨v5,g5,vf,s1',s3,ha5,f5,hz5,o5,c15⟩:=key (n+1) hnl hpd
  have s1:∀h1,evSlice Tryz.prog h1 22 lv (some (.int .i64 (((n:Nat):Int)+1))) none none=some vf:=fun h1=>s1' h1
  obtain ⟨id,off,c,cs,o,tx,hlv,hgi,hidl,hle,hx,x0,x1,x2⟩:=Ps.at hv4 hp
  subst hlv
  have c4:((n:Nat):Int)<(l.length:Nat):=by omega
  obtain ⟨q1,q2⟩:=fin v5 g5 (.cells [v5] true false) f5 hz5
  have q3:∀id o n z c,v5=.sl id o n z c→h.nx≤id:=fun id o n z c hh=>by have:=ezGe hz5 hh;omega
  have bT:=bldT3 (ezShape hz5)
  rcases ezShape hz5 with rfl | ⟨i5,n5,c5,rfl⟩
  all_goals
   simp (maxSteps:=1000000) -dsimp (disch:=(repeat first | rw [nxn] | rw [nxp]);try omega) only [go_sem,c02,lln,ol,t1,t3,ha3,o3,bP,ha4,o4,c04,c4,hnl,hgi,x0,eqSt,hkd,s1,s3,ha5,o5,bT,c15]
   exact ⟨⟨_,rfl,q1,q3⟩,q2⟩
 ·rw [if_neg hk] at hpd
  obtain ⟨v5,g5,vf,s1,s3,ha5,f5,hz5,o5,c15⟩:=key n hpl hpd
  obtain ⟨q1,q2⟩:=fin v5 g5 (.cells [v5] true false) f5 hz5
  have q3:∀id o n z c,v5=.sl id o n z c→h.nx≤id:=fun id o n z c hh=>by have:=ezGe hz5 hh;omega
  have bT:=bldT3 (ezShape hz5)
  by_cases c4:((n:Nat):Int)<(l.length:Nat)
  ·have hnl:n<l.length:=by omega
   obtain ⟨p,hp⟩:∃p,l[n]? = some p:=⟨_,List.getElem?_eq_getElem hnl⟩
   rw [hp] at hk
   have hkd:decide (p.1=k)=false:=by simpa using hk
   obtain ⟨id,off,c,cs,o,tx,hlv,hgi,hidl,hle,hx,x0,x1,x2⟩:=Ps.at hv4 hp
   subst hlv
   rcases ezShape hz5 with rfl | ⟨i5,n5,c5,rfl⟩
   all_goals
    simp (maxSteps:=1000000) -dsimp (disch:=(repeat first | rw [nxn] | rw [nxp]);try omega) only [go_sem,c02,lln,ol,t1,t3,ha3,o3,bP,ha4,o4,c04,c4,hnl,hgi,x0,eqSt,hkd,s1,s3,ha5,o5,bT,c15]
    exact ⟨⟨_,rfl,q1,q3⟩,q2⟩
  ·rcases ezShape hz5 with rfl | ⟨i5,n5,c5,rfl⟩
   all_goals
    simp (maxSteps:=1000000) -dsimp (disch:=(repeat first | rw [nxn] | rw [nxp]);try omega) only [go_sem,c02,lln,ol,t1,t3,ha3,o3,bP,ha4,o4,c04,c4,s1,s3,ha5,o5,bT,c15]
    exact ⟨⟨_,rfl,q1,q3⟩,q2⟩
end
def ofD (l:KL (List Nat×Bool)):KL (List Nat×Bool):=l.foldl (fun L p=>putP L p.1 (p.2.1,false)) []
theorem pf_put (k x:List Nat):∀L:KL (List Nat),putP (pf L) k (x,false)=pf (putP L k x)
 | []=>rfl
 | e::r=>by
  show putP ((e.1,(e.2,false))::pf r) k (x,false)=pf (putP (e::r) k x)
  rw [putP_cons,putP_cons,pf_put k x r]
  split
  ·rfl
  ·split <;> rfl
theorem pf_del (k:List Nat):∀L:KL (List Nat),delP (pf L) k=pf (delP L k)
 | []=>rfl
 | e::r=>by
  have e1:delP (pf (e::r)) k=if lessA e.1 k=true then (e.1,(e.2,false))::delP (pf r) k else if e.1=k then pf r else (e.1,(e.2,false))::pf r:=rfl
  have e2:delP (e::r) k=if lessA e.1 k=true then e::delP r k else if e.1=k then r else e::r:=rfl
  rw [e1,e2,pf_del k r]
  split
  ·rfl
  ·split <;> rfl
theorem ofD_eq (l:KL (List Nat×Bool)):ofD l=pf (ofP l):=by
 have key:∀(l:KL (List Nat×Bool)) (L:KL (List Nat)),l.foldl (fun L p=>putP L p.1 (p.2.1,false)) (pf L)=pf (l.foldl (fun L p=>putP L p.1 p.2.1) L):=by
  intro l
  induction l with
  | nil=>intro L;rfl
  | cons p l ih =>
   intro L
   rw [List.foldl_cons,List.foldl_cons,pf_put,ih]
 exact key l []
theorem ofD_len (l:KL (List Nat×Bool)):(ofD l).length≤l.length:=by
 have key:∀(l L:KL (List Nat×Bool)),(l.foldl (fun L p=>putP L p.1 (p.2.1,false)) L).length≤L.length+l.length:=by
  intro l
  induction l with
  | nil=>intro L;exact Nat.le_refl _
  | cons p l ih =>
   intro L
   have h1:=ih (putP L p.1 (p.2.1,false))
   have h2:=putP_len p.1 ((p.2.1,false):List Nat×Bool) L
   rw [List.foldl_cons,List.length_cons]
   omega
 have:=key l []
 rw [List.length_nil,Nat.zero_add] at this
 exact this
section
variable {S : Sums}
theorem dropD (hS:Td S) {h:AH} {lv:AV} {l:KL (List Nat×Bool)} (k:List Nat) (hv:Ps h lv l) (hl:l.length≤100000):RnC Tryz.prog S 44 [.agg [lv],.str k] h fun r h'=>(∃v',r=.agg [v']∧Ps h' v' (delP l k)∧∀id o n z c,v'=.sl id o n z c→v'=lv∨h.nx≤id)∧Fr h h':=by
 refine RnC.enter' Tryz.f44 _ 38 [.cell 4 47] (hS.nd _ _ _ (by simp)) bd44 Tryz.func44 rfl rfl rfl ?_
 obtain ⟨lln,sl,ol⟩:=hv.ln
 have om:=ol
 unfold oneA at om
 have ha1:∀(o1 o2:AO),((h.new o1).new o2).get h.nx=some o1:=fun o1 o2=>(AH.get_new_ne (by simp)).trans (AH.get_new_eq rfl)
 simp -dsimp (disch:=(repeat first | rw [nxn] | rw [nxp]);try omega) only [go_sem,ol,om,ha1]
 generalize hg:((h.new (.cells [lv] true false)).new (.cells [.nilsl] true false))=g
 have ng:g.nx=h.nx+2:=by rw [←hg];rfl
 have fg:Fr h g:=by rw [←hg];exact (Fr.new _ _).news _
 have c0:g.get h.nx=some (.cells [lv] true false):=by rw [←hg];exact ha1 _ _
 have c1:g.get (h.nx+1)=some (.cells [.nilsl] true false):=by rw [←hg];exact AH.get_new_eq rfl
 refine callK_of (placeC hS k (hv.fr fg) (by omega)) ?_
 rintro w g2 ⟨rfl,f2⟩
 have hpl:=plcP_le l k
 have hpd:=del_doc k l
 generalize plcP l k=n at hpl hpd
 have c02:=(f2.get _ (by omega)).trans c0
 have c12:=(f2.get _ (by omega)).trans c1
 have n2:=f2.nx
 have hv2:=(hv.fr fg).fr f2
 have same:¬(l[n]?).map (·.1)=some k→∀o,Ps (g2.put (h.nx+1) o) lv (delP l k)∧Fr h (g2.put (h.nx+1) o):=fun hk o=>by
  rw [if_neg hk] at hpd
  rw [hpd]
  have fz:Fr h (g2.put (h.nx+1) o):=(fg.trans f2).put _ (by omega)
  exact ⟨hv.fr fz,fz⟩
 by_cases c4:((n:Nat):Int)=(l.length:Nat)
 ·have hk:¬(l[n]?).map (·.1)=some k:=by
   rw [List.getElem?_eq_none (by omega)]
   intro hh;cases hh
  obtain ⟨q1,q2⟩:=same hk (.cells [lv] true false)
  rcases psShape hv with rfl | ⟨i5,o5,n5,c5,rfl⟩
  all_goals
   simp -dsimp (disch:=(repeat first | rw [nxn] | rw [nxp]);try omega) only [go_sem,c02,lln,ol,c4,c12]
   exact ⟨⟨_,rfl,q1,fun id o n z c hh=>.inl rfl⟩,q2⟩
 ·have hnl:n<l.length:=by omega
  obtain ⟨p,hp⟩:∃p,l[n]? = some p:=⟨_,List.getElem?_eq_getElem hnl⟩
  obtain ⟨id,off,c,cs,o,tx,rfl,hgi,hidl,hle,hx,x0,x1,x2⟩:=Ps.at hv2 hp
  by_cases hpk:p.1=k
  ·have hkd:decide (p.1=k)=true:=by simpa using hpk
   rw [if_pos (by rw [hp,←hpk];rfl)] at hpd
   obtain ⟨vt,t1,t2,t3,t4⟩:=hv2.to hpl
   obtain ⟨vf,s1',s2,s3,s4⟩:=hv2.frm (show n+1≤l.length from hnl)
   have s1:∀h1,evSlice Tryz.prog h1 22 (.sl id off l.length 3 c) (some (.int .i64 (((n:Nat):Int)+1))) none none=some vf:=fun h1=>s1' h1
   simp -dsimp (disch:=(repeat first | rw [nxn] | rw [nxp]);try omega) only [go_sem,c02,lln,ol,c4,hnl,hgi,x0,neSt,hkd]
   refine syDraw.keepN 12 (fun j=>j=h.nx) (by kernel_rfl) (by kernel_rfl) rfl ?_
   have fX:Fr g2 (({ tr:=g2.tr,nx:=g2.nx+14 }:AH).put g2.nx (.cells [] true true)):=((Fr.refl g2).more _ (by omega)).put _ (Nat.le_refl _)
   have hzX:Ez 3 g2.nx (({ tr:=g2.tr,nx:=g2.nx+14 }:AH).put g2.nx (.cells [] true true)) (.sl g2.nx 0 0 3 (some 0)) (([]:KL (List Nat×Bool)).flatMap pc):=.inr ⟨g2.nx,0,some 0,true,rfl,AH.get_put_eq rfl,(show g2.nx<g2.nx+14 by omega),Nat.le_refl _,rfl,.inr rfl,.inr ⟨rfl,rfl⟩⟩
   obtain ⟨v3,g3,ha3,f3,hz3,o3⟩:=appP (h0:=g2) hzX (t2.fr fX) fX (by simp;omega)
   rw [List.nil_append] at hz3
   have c03:g3.get h.nx=_:=(f3.get _ (by omega)).trans c02
   obtain ⟨v5,g5,ha5,f5,hz5,o5⟩:=appP (h0:=g2) hz3 (s2.fr f3) f3 (by simp;omega)
   have c15:g5.get (h.nx+1)=_:=(f5.get _ (by omega)).trans c12
   have k3:∀j,j=h.nx→g3.get j=g2.get j:=fun j hj=>by subst hj;exact f3.get _ (by omega)
   have k5:∀j,j=h.nx→g5.get j=g3.get j:=fun j hj=>by subst hj;exact (f5.get _ (by omega)).trans (f3.get _ (by omega)).symm
   have bT:=bldT3 (ezShape hz5)
   rw [←hpd] at hz5
   have q1:∀o,Ps (g5.put (h.nx+1) o) v5 (delP l k):=fun o=>Ps.of (ezPut hz5 (by omega))
   have q2:∀o,Fr h (g5.put (h.nx+1) o):=fun o=>((fg.trans f2).trans f5).put _ (by omega)
   have q3:∀id' o' n' z' c',v5=.sl id' o' n' z' c'→v5=.sl id off l.length 3 c∨h.nx≤id':=fun id' o' n' z' c' hh=>.inr (by have:=ezGe hz5 hh;omega)
   rcases ezShape hz5 with rfl | ⟨i5,n5,c5,rfl⟩
   all_goals
    simp -dsimp (disch:=(repeat first | rw [nxn] | rw [nxp]);try omega) only [go_sem,c02,c03,sl,lln,ol,t1,t3,t4,s1,s3,s4,ha3,o3,ha5,o5,bT,c15,true_and,implies_true,svi,svb]
    exact ⟨k3,k5,⟨_,rfl,q1 _,q3⟩,q2 _⟩
  ·have hkd:decide (p.1=k)=false:=by simpa using hpk
   have hk:¬(l[n]?).map (·.1)=some k:=by
    rw [hp];intro hh;exact hpk (Option.some.inj hh)
   obtain ⟨q1,q2⟩:=same hk (.cells [.sl id off l.length 3 c] true false)
   simp -dsimp (disch:=(repeat first | rw [nxn] | rw [nxp]);try omega) only [go_sem,c02,lln,ol,c4,hnl,hgi,x0,neSt,hkd,c12]
   exact ⟨⟨_,rfl,q1,fun id o n z c hh=>.inl rfl⟩,q2⟩
end
theorem psPut {h:AH} {v:AV} {l:KL (List Nat×Bool)} {j:Nat} {o:AO} (hb:Ps h v l) (hne:∀id o n z c,v=.sl id o n z c→id≠j):Ps (h.put j o) v l:=by
 rcases hb with h1 | ⟨id,off,c,cs,ow,tx,h1,h2,h3,h4⟩
 ·exact .inl h1
 ·exact .inr ⟨id,off,c,cs,ow,tx,h1,(AH.get_put_ne (hne _ _ _ _ _ h1)).trans h2,h3,h4⟩
section
variable {S : Sums}
end
open Go.Abs.Stb
abbrev PL:=KL (List Nat×Bool)
structure Mt (id:Nat) (v:AV) (h:AH) (l:PL):Prop where
 v:∃c,v=.sl id 0 l.length 3 c∧(c=none∨c=some l.length)
 g:h.get id=some (.cells (l.flatMap pc) true false)
 lt:id<h.nx
structure Mr (id:Nat) (v:AV) (h h':AH) (l':PL):Prop where
 nx:h.nx≤h'.nx
 ot:∀j,j<h.nx→j≠id→h'.get j=h.get j
 m:Mt id v h' l'
theorem Mr.refl {id:Nat} {v:AV} {h:AH} {l:PL} (hm:Mt id v h l):Mr id v h h l:=⟨Nat.le_refl _,fun _ _ _=>rfl,hm⟩
theorem Mr.trans {id:Nat} {v:AV} {h1 h2 h3:AH} {l2 l3:PL} (a:Mr id v h1 h2 l2) (b:Mr id v h2 h3 l3):Mr id v h1 h3 l3 :=
 ⟨Nat.le_trans a.nx b.nx,fun j hj hne=>(b.ot j (Nat.lt_of_lt_of_le hj a.nx) hne).trans (a.ot j hj hne),b.m⟩
theorem Mt.ps {id:Nat} {v:AV} {h:AH} {l:PL} (hm:Mt id v h l):Ps h v l:=by
 obtain ⟨c,hv,hc⟩:=hm.v
 exact .inr ⟨id,0,c,_,true,false,hv,hm.g,hm.lt,fun k hk=>by
  rcases hc with hc | hc
  ·rw [hc] at hk;cases hk
  ·rw [hc] at hk;cases hk;exact Nat.le_refl _,by rw [pc_len];omega,by rw [List.drop_zero,←pc_len,List.take_length]⟩
theorem Mt.more {id:Nat} {v:AV} {h:AH} {l:PL} (hm:Mt id v h l) {n:Nat} (hn:h.nx≤n):Mt id v { tr:=h.tr,nx:=n } l:=⟨hm.v,hm.g,Nat.lt_of_lt_of_le hm.lt hn⟩
theorem Mr.put2 {id:Nat} {v:AV} {h g:AH} {l l1 l2:PL} {n:Nat} (hm:Mr id v h g l) (hl:l2.length=l.length) (hn:g.nx≤n) :
  Mr id v h ((({ tr:=g.tr,nx:=n }:AH).put id (.cells (l1.flatMap pc) true false)).put id (.cells (l2.flatMap pc) true false)) l2:=by
 obtain ⟨n1,o1,⟨c,hv,hc⟩,hg,hlt⟩:=hm
 refine ⟨Nat.le_trans n1 hn,fun j hj hne=>(AH.get_put_ne hne).trans ((AH.get_put_ne hne).trans (o1 j hj hne)),⟨c,by rw [hl];exact hv,by rw [hl];exact hc⟩,AH.get_put_eq rfl,Nat.lt_of_lt_of_le hlt hn⟩
theorem Mr.more {id:Nat} {v:AV} {h g:AH} {l:PL} {n:Nat} (hm:Mr id v h g l) (hn:g.nx≤n):Mr id v h { tr:=g.tr,nx:=n } l :=
 ⟨Nat.le_trans hm.nx hn,hm.ot,hm.m.more hn⟩
theorem pcSet:∀ {l:PL} {i:Nat} (p:Pr),i<l.length→(l.flatMap pc).take (i*3)++[.str p.1,.str p.2.1,.bool p.2.2]++(l.flatMap pc).drop (i*3+3)=(l.set i p).flatMap pc
 | [],i,p,h=>by simp at h
 | q::l,0,p,h=>by simp [pc]
 | q::l,i+1,p,h=>by
  have ih:=pcSet (l:=l) (i:=i) p (by simpa using h)
  have e1:(i+1)*3=(pc q).length+i*3:=by show _=3+_;omega
  have e2:(i+1)*3+3=(pc q).length+(i*3+3):=by show _=3+_;omega
  rw [List.flatMap_cons,e2,e1,List.take_length_add_append,List.drop_length_add_append,List.set_cons_succ,List.flatMap_cons,←ih]
  simp
theorem pcAt {l:PL} {i:Nat} {p:Pr} (hi:l[i]? = some p):((l.flatMap pc).drop (i*3)).take 3=[.str p.1,.str p.2.1,.bool p.2.2]:=pc_get hi
theorem pcLe {l:PL} {i:Nat} (hi:i<l.length):i*3+3≤(l.flatMap pc).length:=by rw [pc_len];omega
theorem swap_mid {X Y Z:PL} {u v:Pr}:((X++u::Y++v::Z).set X.length v).set (X.length+1+Y.length) u=X++v::Y++u::Z:=by
 have e1:X++u::Y++v::Z=X++u::(Y++v::Z):=by simp
 rw [e1,List.set_append_right _ _ (Nat.le_refl _),Nat.sub_self,List.set_cons_zero]
 have e2:X++v::(Y++v::Z)=(X++v::Y)++v::Z:=by simp
 have e3:X.length+1+Y.length=(X++v::Y).length:=by simp;omega
 rw [e2,e3,List.set_append_right _ _ (Nat.le_refl _),Nat.sub_self,List.set_cons_zero]
theorem get_mid {X Z:PL} {u:Pr}:(X++u::Z)[X.length]? = some u:=by simp
section
variable {S : Sums}
structure Ts (S:Sums):Prop extends Td S where
 ns:∀f args h,f∈[74,75,76,124,145,146,162,173,79,35,77,80,78,125]→S f args h=none
theorem swapRC (hS:Ts S) {h:AH} {id:Nat} {v f:AV} {A U M V B:PL} (hm:Mt id v h (A++U++M++V++B)) (hl:U.length=V.length) (hb:(A++U++M++V++B).length≤1000000) (hf:oneA f=true) {a b n:Nat} (ha:a=A.length) (hb':b=A.length+U.length+M.length) (hn:n=U.length) :
  RnC Tryz.prog S 173 [v,.int .i64 (a:Nat),.int .i64 (b:Nat),.int .i64 (n:Nat),f] h fun r h'=>Mr id v h h' (A++V++M++U++B):=by
 refine RnC.enter' Tryz.f173 _ 38 [] (hS.ns _ _ _ (by simp)) bd173 Tryz.func173 rfl rfl rfl ?_
 subst ha hb' hn
 have hm0:=hm
 obtain ⟨⟨c,hv,hc⟩,hg,hlt⟩:=hm
 have hlen:(A++U++M++V++B).length=A.length+U.length+M.length+V.length+B.length:=by simp;omega
 have ov:oneA v=true:=by rw [hv];rfl
 simp -dsimp (disch:=(repeat first | rw [nxn] | rw [nxp]);try omega) only [go_sem,ov,hf]
 refine loopK_of (RnL.rounds (Q:=fun ex u=>ex=.exit 0∧u.d=[]∧Mr id v h u.h (A++V++M++U++B))
  (fun m u=>u.d=[]∧u.t.get 0=some v∧u.t.get 1=some (.int .i64 (A.length:Nat))∧u.t.get 2=some (.int .i64 ((A.length+U.length+M.length:Nat):Int))∧u.t.get 3=some (.int .i64 (U.length:Nat))∧∃i:Nat,u.t.get 10=some (.int .i64 (i:Nat))∧i≤U.length∧Mr id v h u.h (A++V.take i++U.drop i++M++U.take i++V.drop i++B)∧m=U.length-i) ?_ U.length ?_) ?_
 ·rintro m ⟨tt,g,d⟩ ⟨e2,g0,g1,g2,g3,i,g10,hi,hmr,rfl⟩
  dsimp only at e2 g0 g1 g2 g3 g10 hmr
  subst e2
  by_cases c4:(i:Int)<(U.length:Nat)
  ·have hil:i<U.length:=by omega
   obtain ⟨u,hu⟩:∃u,U[i]? = some u:=⟨_,List.getElem?_eq_getElem hil⟩
   obtain ⟨w,hw⟩:∃w,V[i]? = some w:=⟨_,List.getElem?_eq_getElem (show i<V.length by omega)⟩
   have du:U.drop i=u::U.drop (i+1):=by rw [List.drop_eq_getElem_cons hil,(List.getElem?_eq_some_iff.1 hu).2]
   have dw:V.drop i=w::V.drop (i+1):=by rw [List.drop_eq_getElem_cons (by omega),(List.getElem?_eq_some_iff.1 hw).2]
   have tu:U.take (i+1)=U.take i++[u]:=by rw [List.take_add_one,hu];rfl
   have tw:V.take (i+1)=V.take i++[w]:=by rw [List.take_add_one,hw];rfl
   generalize hX:A++V.take i=X at hmr
   generalize hY:U.drop (i+1)++M++U.take i=Y
   generalize hZ:V.drop (i+1)++B=Z
   have eL:X++U.drop i++M++U.take i++V.drop i++B=X++u::Y++w::Z:=by
    rw [du,dw,←hY,←hZ];simp
   have eR:A++V.take (i+1)++U.drop (i+1)++M++U.take (i+1)++V.drop (i+1)++B=X++w::Y++u::Z:=by
    rw [tu,tw,←hX,←hY,←hZ];simp
   have hXl:X.length=A.length+i:=by rw [←hX,List.length_append,List.length_take];omega
   have hYl:Y.length=U.length-(i+1)+M.length+i:=by rw [←hY];simp only [List.length_append,List.length_drop,List.length_take];omega
   rw [eL] at hmr
   have hll:(X++u::Y++w::Z).length=(A++U++M++V++B).length:=by
    rw [←eL,←hX,hlen];simp only [List.length_append,List.length_drop,List.length_take];omega
   have hZl:Z.length=V.length-(i+1)+B.length:=by rw [←hZ];simp only [List.length_append,List.length_drop]
   have hp:A.length+i<(X++u::Y++w::Z).length:=by rw [hll,hlen];omega
   have hq:A.length+U.length+M.length+i<(X++u::Y++w::Z).length:=by rw [hll,hlen];omega
   have gp:(X++u::Y++w::Z)[A.length+i]? = some u:=by rw [←hXl];simp
   have gq:(X++u::Y++w::Z)[A.length+U.length+M.length+i]? = some w:=by
    have:A.length+U.length+M.length+i=(X++u::Y).length:=by simp;omega
    rw [this];exact get_mid
   have hsw:((X++u::Y++w::Z).set (A.length+i) w).set (A.length+U.length+M.length+i) u=X++w::Y++u::Z:=by
    have e1:A.length+U.length+M.length+i=X.length+1+Y.length:=by omega
    rw [e1,←hXl];exact swap_mid
   have hll2:(X++w::Y++u::Z).length=(X++u::Y++w::Z).length:=by simp
   generalize X++u::Y++w::Z=l at hmr hll hp hq gp gq hsw hll2
   have hmr2:=hmr
   obtain ⟨nx1,ot1,⟨⟨c',hv',hc'⟩,hg1,hlt1⟩⟩:=hmr
   have a1:=pcAt gp
   have a2:=pcAt gq
   have b1:=pcLe hp
   have b2:=pcLe hq
   have s1:=pcSet w hp
   have s2:=pcSet (l:=l.set (A.length+i) w) u (by rw [List.length_set];exact hq)
   rw [hsw] at s2
   have b2':(A.length+U.length+M.length+i)*3+3≤((l.set (A.length+i) w).flatMap pc).length:=pcLe (by rw [List.length_set];exact hq)
   have ep:((A.length:Nat):Int)+((i:Nat):Int)=((A.length+i:Nat):Int):=by omega
   have eq:((A.length+U.length+M.length:Nat):Int)+((i:Nat):Int)=((A.length+U.length+M.length+i:Nat):Int):=by omega
   have hv2:=hv'
   rw [hv'] at g0
   simp -dsimp (disch:=(repeat first | rw [nxn] | rw [nxp]);try omega) only [go_sem,c4,g0,g1,g2,g3,g10]
   refine syDraw.keepN 0 (fun _=>True) (by kernel_rfl) (by kernel_rfl) rfl ?_
   simp -dsimp (disch:=(repeat first | rw [nxn] | rw [nxp]);try omega) only [go_sem,c4,g0,g1,g2,g3,g10,ep,eq,hp,hq,hg1,a1,a2,b1,b2,b2',s1,s2]
   exact ⟨U.length-(i+1),by omega,trivial,hv2.symm,trivial,trivial,trivial,i+1,rfl,by omega,by rw [eR];exact hmr2.put2 hll2 (by omega),rfl⟩
  ·have:i=U.length:=by omega
   subst this
   rw [List.take_length,List.drop_length,hl,List.take_length,List.drop_length] at hmr
   simp -dsimp (disch:=(repeat first | rw [nxn] | rw [nxp]);try omega) only [go_sem,c4,g0,g1,g2,g3,g10]
   exact ⟨trivial,trivial,by simpa only [List.append_nil] using hmr⟩
 ·simp -dsimp (disch:=(repeat first | rw [nxn] | rw [nxp]);try omega) only [go_sem]
  exact ⟨trivial,trivial,trivial,trivial,trivial,0,rfl,Nat.zero_le _,by simpa only [List.take_zero,List.drop_zero,List.append_nil] using Mr.refl hm0,rfl⟩
 ·rintro ex ⟨tt,g,d⟩ ⟨rfl,rfl,hmr⟩
  dsimp only at hmr
  simp -dsimp (disch:=(repeat first | rw [nxn] | rw [nxp]);try omega) only [go_sem]
  exact hmr
theorem rotC (hS:Ts S) {h:AH} {id:Nat} {v f:AV} {A U V B:PL} (hm:Mt id v h (A++U++V++B)) (hU:0<U.length) (hV:0<V.length) (hb:(A++U++V++B).length≤1000000) (hf:oneA f=true) {a m b:Nat} (ha:a=A.length) (hm':m=A.length+U.length) (hb':b=A.length+U.length+V.length) :
  RnC Tryz.prog S 162 [v,.int .i64 (a:Nat),.int .i64 (m:Nat),.int .i64 (b:Nat),f] h fun r h'=>Mr id v h h' (A++V++U++B):=by
 refine RnC.enter' Tryz.f162 _ 58 [] (hS.ns _ _ _ (by simp)) bd162 Tryz.func162 rfl rfl rfl ?_
 subst ha hm' hb'
 have hlen:(A++U++V++B).length=A.length+U.length+V.length+B.length:=by simp;omega
 have ov:oneA v=true:=by obtain ⟨⟨c,hv,_⟩,_⟩:=hm;rw [hv];rfl
 have e1:((A.length+U.length:Nat):Int)-((A.length:Nat):Int)=((U.length:Nat):Int):=by omega
 have e2:((A.length+U.length+V.length:Nat):Int)-((A.length+U.length:Nat):Int)=((V.length:Nat):Int):=by omega
 simp -dsimp (disch:=(repeat first | rw [nxn] | rw [nxp]);try omega) only [go_sem,ov,hf,e1,e2]
 refine loopK_of (RnL.rounds (Q:=fun ex u=>ex=.exit 0∧u.d=[]∧u.t.get 0=some v∧u.t.get 4=some f∧u.t.get 2=some (.int .i64 ((A.length+U.length:Nat):Int))∧∃P U' V' Q:PL,u.t.get 10=some (.int .i64 (U'.length:Nat))∧u.t.get 11=some (.int .i64 (V'.length:Nat))∧P.length+U'.length=A.length+U.length∧U'.length=V'.length∧P++V'++U'++Q=A++V++U++B∧Mr id v h u.h (P++U'++V'++Q))
  (fun k u=>u.d=[]∧u.t.get 0=some v∧u.t.get 4=some f∧u.t.get 2=some (.int .i64 ((A.length+U.length:Nat):Int))∧∃P U' V' Q:PL,u.t.get 10=some (.int .i64 (U'.length:Nat))∧u.t.get 11=some (.int .i64 (V'.length:Nat))∧P.length+U'.length=A.length+U.length∧0<U'.length∧0<V'.length∧P++V'++U'++Q=A++V++U++B∧Mr id v h u.h (P++U'++V'++Q)∧k=U'.length+V'.length) ?_ (U.length+V.length) ?_) ?_
 ·rintro k ⟨tt,g,d⟩ ⟨e3,g0,g4,g2,P,U',V',Q,g10,g11,hPU,hU',hV',hpe,hmr,rfl⟩
  dsimp only at e3 g0 g4 g2 g10 g11 hmr
  subst e3
  have hpl:P.length+V'.length+U'.length+Q.length=A.length+U.length+V.length+B.length:=by
   have:=congrArg List.length hpe
   simp only [List.length_append] at this
   omega
  by_cases c1:U'.length=V'.length
  ·have c2:((U'.length:Nat):Int)=((V'.length:Nat):Int):=by omega
   simp -dsimp (disch:=(repeat first | rw [nxn] | rw [nxp]);try omega) only [go_sem,c2,g0,g2,g4,g10,g11]
   exact ⟨trivial,trivial,trivial,trivial,trivial,P,U',V',Q,by simp [c1],rfl,hPU,c1,hpe,hmr⟩
  ·have c2:¬((U'.length:Nat):Int)=((V'.length:Nat):Int):=by omega
   by_cases c3:V'.length<U'.length
   ·have c4:((V'.length:Nat):Int)<((U'.length:Nat):Int):=by omega
    obtain ⟨U1,U2,rfl,hu1⟩:∃U1 U2,U'=U1++U2∧U1.length=V'.length:=⟨U'.take V'.length,U'.drop V'.length,(List.take_append_drop _ _).symm,by rw [List.length_take];omega⟩
    have e4:((A.length+U.length:Nat):Int)-(((U1++U2).length:Nat):Int)=((P.length:Nat):Int):=by omega
    have hul:(U1++U2).length=U1.length+U2.length:=List.length_append
    have e5:(((U1++U2).length:Nat):Int)-((V'.length:Nat):Int)=((U2.length:Nat):Int):=by omega
    have hm2:Mt id v g (P++U1++U2++V'++Q):=by simpa only [List.append_assoc] using hmr.m
    simp -dsimp (disch:=(repeat first | rw [nxn] | rw [nxp]);try omega) only [go_sem,c2,c4,e4,g0,g2,g4,g10,g11,ov,hf]
    refine callK_of (swapRC hS hm2 hu1 (by simp only [List.length_append] at hpl ⊢;omega) hf rfl (by omega) hu1.symm) ?_
    intro w g5 hr
    simp -dsimp (disch:=(repeat first | rw [nxn] | rw [nxp]);try omega) only [go_sem,e5,g0,g2,g4,g10,g11]
    exact ⟨U2.length+V'.length,by omega,trivial,trivial,trivial,trivial,P++V',U2,U1,Q,rfl,by rw [hu1],by rw [List.length_append];omega,by omega,by omega,by rw [←hpe];simp only [List.append_assoc],(hmr.trans (by simpa only [List.append_assoc] using hr)),by omega⟩
   ·have c4:¬((V'.length:Nat):Int)<((U'.length:Nat):Int):=by omega
    obtain ⟨V1,V2,rfl,hv2⟩:∃V1 V2,V'=V1++V2∧V2.length=U'.length:=⟨V'.take (V'.length-U'.length),V'.drop (V'.length-U'.length),(List.take_append_drop _ _).symm,by rw [List.length_drop];omega⟩
    have hul:(V1++V2).length=V1.length+V2.length:=List.length_append
    have e4:((A.length+U.length:Nat):Int)-((U'.length:Nat):Int)=((P.length:Nat):Int):=by omega
    have e6:((A.length+U.length:Nat):Int)+(((V1++V2).length:Nat):Int)=((A.length+U.length+(V1++V2).length:Nat):Int):=by omega
    have e7:((A.length+U.length+(V1++V2).length:Nat):Int)-((U'.length:Nat):Int)=((A.length+U.length+V1.length:Nat):Int):=by omega
    have e5:(((V1++V2).length:Nat):Int)-((U'.length:Nat):Int)=((V1.length:Nat):Int):=by omega
    have hm2:Mt id v g (P++U'++V1++V2++Q):=by simpa only [List.append_assoc] using hmr.m
    simp -dsimp (disch:=(repeat first | rw [nxn] | rw [nxp]);try omega) only [go_sem,c2,c4,e4,e6,e7,g0,g2,g4,g10,g11,ov,hf]
    refine callK_of (swapRC hS hm2 hv2.symm (by simp only [List.length_append] at hpl ⊢;omega) hf rfl (by omega) rfl) ?_
    intro w g5 hr
    simp -dsimp (disch:=(repeat first | rw [nxn] | rw [nxp]);try omega) only [go_sem,e5,g0,g2,g4,g10,g11]
    exact ⟨U'.length+V1.length,by omega,trivial,trivial,trivial,trivial,P,V2,V1,U'++Q,by rw [hv2],rfl,by omega,by omega,by omega,by rw [←hpe];simp only [List.append_assoc],(hmr.trans (by simpa only [List.append_assoc] using hr)),by omega⟩
 ·simp -dsimp (disch:=(repeat first | rw [nxn] | rw [nxp]);try omega) only [go_sem]
  exact ⟨trivial,trivial,trivial,trivial,A,U,V,B,rfl,rfl,rfl,hU,hV,rfl,Mr.refl hm,rfl⟩
 ·rintro ex ⟨tt,g,d⟩ ⟨rfl,rfl,g0,g4,g2,P,U',V',Q,g10,g11,hPU,hUV,hpe,hmr⟩
  dsimp only at g0 g4 g2 g10 g11 hmr
  have hpl:P.length+V'.length+U'.length+Q.length=A.length+U.length+V.length+B.length:=by
   have:=congrArg List.length hpe
   simp only [List.length_append] at this
   omega
  have e4:((A.length+U.length:Nat):Int)-((U'.length:Nat):Int)=((P.length:Nat):Int):=by omega
  have hm2:Mt id v g (P++U'++[]++V'++Q):=by simpa only [List.append_nil] using hmr.m
  simp -dsimp (disch:=(repeat first | rw [nxn] | rw [nxp]);try omega) only [go_sem,e4,g0,g2,g4,g10,g11,ov,hf]
  refine callK_of (swapRC hS hm2 hUV (by simp only [List.length_append,List.length_nil] at hpl ⊢;omega) hf rfl (by simp only [List.length_nil];omega) rfl) ?_
  intro w g5 hr
  try simp -dsimp (disch:=(repeat first | rw [nxn] | rw [nxp]);try omega) only [go_sem]
  rw [←hpe]
  exact hmr.trans (by simpa only [List.append_nil] using hr)
end
section
variable {S : Sums}
structure Tc (S:Sums):Prop where
 nc:∀f args h,f∈[77,80,78,125]→S f args h=none
def cmpI (a b:List Nat):Int:=if lessA a b=true then -1 else if lessA b a=true then 1 else 0
theorem cmpI_neg {a b:List Nat}:cmpI a b<0↔lessA a b=true:=by
 unfold cmpI
 split
 ·simp [*]
 ·split <;> simp [*]
theorem gtSt (h:AH) (a b:List Nat):binA Tryz.prog h .gtr 9 (.str a) (.str b)=some (.bool (lessA b a)):=by
 simp only [binA,strA,eqL_eq]
 by_cases he:a=b
 ·subst he;simp [lessA_irr]
 ·cases h1:lessA a b
  ·simp [he,lessA_tot a b he h1]
  ·simp [lessA_asym h1]
theorem nanC (hS:Tc S) (h:AH) (a:List Nat):RnC Tryz.prog S 125 [.str a] h fun r h'=>r=.bool false∧Fr h h':=by
 refine RnC.enter' Tryz.f125 _ 6 [.tmp 2] (hS.nc _ _ _ (by simp)) bd125 Tryz.func125 rfl rfl rfl ?_
 simp -dsimp (disch:=(repeat first | rw [nxn] | rw [nxp]);try omega) only [go_sem,neSt,b0e]
 exact ⟨by first | trivial | simp,Fr.refl _⟩
theorem comC (hS:Tc S) (h:AH) (a b:List Nat):RnC Tryz.prog S 78 [.str a,.str b] h fun r h'=>r=.int .i64 (cmpI a b)∧Fr h h':=by
 refine RnC.enter' Tryz.f78 _ 20 [.tmp 4] (hS.nc _ _ _ (by simp)) bd78 Tryz.func78 rfl rfl rfl ?_
 simp -dsimp (disch:=(repeat first | rw [nxn] | rw [nxp]);try omega) only [go_sem]
 refine callK_of (nanC hS h a) ?_
 rintro w g1 ⟨rfl,f1⟩
 try simp -dsimp (disch:=(repeat first | rw [nxn] | rw [nxp]);try omega) only [go_sem]
 refine callK_of (nanC hS g1 b) ?_
 rintro w g2 ⟨rfl,f2⟩
 cases h1:lessA a b
 ·cases h2:lessA b a
  ·simp -dsimp (disch:=(repeat first | rw [nxn] | rw [nxp]);try omega) only [go_sem,ltSt,gtSt,h1,h2]
   exact ⟨by simp [cmpI,h1,h2],f1.trans f2⟩
  ·simp -dsimp (disch:=(repeat first | rw [nxn] | rw [nxp]);try omega) only [go_sem,ltSt,gtSt,h1,h2]
   exact ⟨by simp [cmpI,h1,h2],f1.trans f2⟩
 ·simp -dsimp (disch:=(repeat first | rw [nxn] | rw [nxp]);try omega) only [go_sem,ltSt,h1]
  exact ⟨by simp [cmpI,h1],f1.trans f2⟩
def fK:AV:=.func (.func 77) [] []
def fE:AV:=.func (.func 80) [] []
theorem keyC (hS:Tc S) (h:AH) (p q:Pr):RnC Tryz.prog S 77 [.agg [.str p.1,.str p.2.1,.bool p.2.2],.agg [.str q.1,.str q.2.1,.bool q.2.2]] h fun r h'=>r=.int .i64 (cmpI p.1 q.1)∧Fr h h':=by
 refine RnC.enter' Tryz.f77 _ 10 [.tmp 4] (hS.nc _ _ _ (by simp)) bd77 Tryz.func77 rfl rfl rfl ?_
 have d1:∀(o1 o2:AO),((h.new o1).new o2).get h.nx=some o1:=fun o1 o2=>(AH.get_new_ne (by simp <;> omega)).trans (AH.get_new_eq rfl)
 have d2:∀(o1 o2:AO),((h.new o1).new o2).get (h.nx+1)=some o2:=fun o1 o2=>AH.get_new_eq rfl
 simp -dsimp (disch:=(repeat first | rw [nxn] | rw [nxp]);try omega) only [go_sem,d1,d2]
 refine callK_of (comC hS _ p.1 q.1) ?_
 rintro w g1 ⟨rfl,f1⟩
 simp -dsimp (disch:=(repeat first | rw [nxn] | rw [nxp]);try omega) only [go_sem]
 exact ⟨by first | rfl | trivial,((Fr.new _ _).news _).trans f1⟩
theorem eqlC (hS:Tc S) (h:AH) (p q:Pr):RnC Tryz.prog S 80 [.agg [.str p.1,.str p.2.1,.bool p.2.2],.agg [.str q.1,.str q.2.1,.bool q.2.2]] h fun r h'=>r=.bool (decide (p.1=q.1))∧Fr h h':=by
 refine RnC.enter' Tryz.f80 _ 10 [.tmp 4] (hS.nc _ _ _ (by simp)) bd80 Tryz.func80 rfl rfl rfl ?_
 have d1:∀(o1 o2:AO),((h.new o1).new o2).get h.nx=some o1:=fun o1 o2=>(AH.get_new_ne (by simp <;> omega)).trans (AH.get_new_eq rfl)
 have d2:∀(o1 o2:AO),((h.new o1).new o2).get (h.nx+1)=some o2:=fun o1 o2=>AH.get_new_eq rfl
 simp -dsimp (disch:=(repeat first | rw [nxn] | rw [nxp]);try omega) only [go_sem,d1,d2,eqSt]
 exact ⟨by first | rfl | trivial,(Fr.new _ _).news _⟩
end
theorem Ts.tc {S:Sums} (hS:Ts S):Tc S:=⟨fun f args h hf=>hS.ns f args h (by simp only [List.mem_cons,List.not_mem_nil,or_false] at hf;rcases hf with rfl | rfl | rfl | rfl <;> simp)⟩
theorem Mr.eqL {id:Nat} {v:AV} {h g:AH} {l l':PL} (hm:Mr id v h g l) (e:l=l'):Mr id v h g l':=e▸hm
theorem Mr.fr {id:Nat} {v:AV} {h g g':AH} {l:PL} (hm:Mr id v h g l) (f:Fr g g'):Mr id v h g' l:=by
 obtain ⟨n1,o1,⟨hv,hg,hlt⟩⟩:=hm
 exact ⟨Nat.le_trans n1 f.nx,fun j hj hne=>(f.get j (Nat.lt_of_lt_of_le hj n1)).trans (o1 j hj hne),hv,(f.get _ hlt).trans hg,Nat.lt_of_lt_of_le hlt f.nx⟩
theorem nb {X Z:PL} {y x:Pr} {l:PL} (hl:l=X++y::x::Z) {p:Nat} (hp:p=X.length) :
  (((l.flatMap pc).drop (p*3)).take 3=[.str y.1,.str y.2.1,.bool y.2.2]∧((l.flatMap pc).drop ((p+1)*3)).take 3=[.str x.1,.str x.2.1,.bool x.2.2]∧p*3+3≤(l.flatMap pc).length∧(p+1)*3+3≤(l.flatMap pc).length∧p+1<l.length∧p<l.length∧(X++x::y::Z).length=l.length) ∧
  ((l.flatMap pc).take ((p+1)*3)++[.str y.1,.str y.2.1,.bool y.2.2]++(l.flatMap pc).drop ((p+1)*3+3)=(l.set (p+1) y).flatMap pc∧((l.set (p+1) y).flatMap pc).take (p*3)++[.str x.1,.str x.2.1,.bool x.2.2]++((l.set (p+1) y).flatMap pc).drop (p*3+3)=(X++x::y::Z).flatMap pc∧p*3+3≤((l.set (p+1) y).flatMap pc).length) ∧
  ((l.flatMap pc).take (p*3)++[.str x.1,.str x.2.1,.bool x.2.2]++(l.flatMap pc).drop (p*3+3)=(l.set p x).flatMap pc∧((l.set p x).flatMap pc).take ((p+1)*3)++[.str y.1,.str y.2.1,.bool y.2.2]++((l.set p x).flatMap pc).drop ((p+1)*3+3)=(X++x::y::Z).flatMap pc∧(p+1)*3+3≤((l.set p x).flatMap pc).length):=by
 have g1:l[p]? = some y:=by rw [hl,hp];simp
 have g2:l[p+1]? = some x:=by rw [hl,hp];simp
 have hlen:l.length=X.length+Z.length+2:=by rw [hl];simp;omega
 have s1:(l.set (p+1) y).set p x=X++x::y::Z:=by
  rw [hl,hp,List.set_append_right _ _ (by omega),Nat.add_sub_cancel_left,List.set_append_right _ _ (by omega),Nat.sub_self];rfl
 have s2:(l.set p x).set (p+1) y=X++x::y::Z:=by
  rw [hl,hp,List.set_append_right _ _ (by omega),Nat.sub_self,List.set_append_right _ _ (by omega),Nat.add_sub_cancel_left];rfl
 refine ⟨⟨pcAt g1,pcAt g2,pcLe (by omega),pcLe (by omega),by omega,by omega,by rw [hl];simp⟩,⟨pcSet y (by omega),?_,pcLe (by rw [List.length_set];omega)⟩,pcSet x (by omega),?_,pcLe (by rw [List.length_set];omega)⟩
 ·rw [←s1];exact pcSet (l:=l.set (p+1) y) x (by rw [List.length_set];omega)
 ·rw [←s2];exact pcSet (l:=l.set p x) y (by rw [List.length_set];omega)
theorem srt_app {α:Type} {lt:α→α→Bool}:∀ {a b:List α},srt lt (a++b)↔srt lt a∧srt lt b∧∀x∈a,∀y∈b,lt y x=false
 | [],b=>by simp [srt]
 | x::a,b=>by
  rw [List.cons_append]
  have e:∀(x:α) (l:List α),srt lt (x::l)=((∀y∈l,lt y x=false)∧srt lt l):=fun _ _=>rfl
  rw [e,e,srt_app (a:=a) (b:=b)]
  constructor
  ·rintro ⟨h1,h2,h3,h4⟩
   refine ⟨⟨fun y hy=>h1 y (List.mem_append_left _ hy),h2⟩,h3,fun z hz y hy=>?_⟩
   rcases List.mem_cons.1 hz with rfl | hz
   ·exact h1 y (List.mem_append_right _ hy)
   ·exact h4 z hz y hy
  ·rintro ⟨⟨h1,h2⟩,h3,h4⟩
   refine ⟨fun y hy=>?_,h2,h3,fun z hz y hy=>h4 z (List.mem_cons_of_mem _ hz) y hy⟩
   rcases List.mem_append.1 hy with hy | hy
   ·exact h1 y hy
   ·exact h4 x (List.mem_cons_self ..) y hy
theorem isort_snoc {Q:PL} {x:Pr} {S1 S2:PL} (hs:S1++S2=isort ltK Q) (h2:∀y∈S2,ltK x y=true) (h1:∀y∈S1,ltK x y=false):isort ltK (Q++[x])=S1++x::S2:=by
 have hsr:=srt_isort (woK (α:=List Nat×Bool)) Q
 rw [←isort_mg woK,←hs]
 rw [←hs] at hsr
 have e1:isort ltK [x]=[x]++([]:PL):=rfl
 rw [e1,mg_split woK _ (Nat.le_refl _) hsr (by simp [srt]) (by simp) (by simpa using h2),mg_nil]
 have h3:=mg_split (lt:=ltK (α:=List Nat×Bool)) woK _ (a1:=S1) (a2:=[]) (b1:=[]) (b2:=[x]) (Nat.le_refl _) (by simpa using (srt_app.1 hsr).1) (by simp [srt]) (by simpa using h1) (by simp)
 rw [List.append_nil,List.nil_append,mg_nil] at h3
 rw [h3]
 simp [mg]
theorem srt_end {T S2:PL} {y x:Pr} (h:srt ltK (T++[y]++S2)) (hx:ltK x y=false):∀z∈T++[y],ltK x z=false:=fun z hz=>by
 rcases List.mem_append.1 hz with hz | hz
 ·exact woK.ntr x y z hx ((srt_app.1 (srt_app.1 h).1).2.2 z hz y (List.mem_singleton.2 rfl))
 ·rw [List.mem_singleton.1 hz];exact hx
section
variable {S : Sums}
theorem insC (hS:Ts S) {h:AH} {id:Nat} {v:AV} {A Q B:PL} (hm:Mt id v h (A++Q++B)) (hb:(A++Q++B).length≤1000000) {a b:Nat} (ha:a=A.length) (hb':b=A.length+Q.length) :
  RnC Tryz.prog S 145 [v,.int .i64 (a:Nat),.int .i64 (b:Nat),fK] h fun r h'=>Mr id v h h' (A++isort ltK Q++B):=by
 refine RnC.enter' Tryz.f145 _ 53 [] (hS.ns _ _ _ (by simp)) bd145 Tryz.func145 rfl rfl rfl ?_
 subst ha hb'
 have hlen:(A++Q++B).length=A.length+Q.length+B.length:=by simp;omega
 have ov:oneA v=true:=by obtain ⟨⟨c,hv,_⟩,_⟩:=hm;rw [hv];rfl
 have e0:((A.length:Nat):Int)+1=((A.length+1:Nat):Int):=by omega
 have hf:oneA fK=true:=rfl
 have hTc:=hS.tc
 simp -dsimp (disch:=(repeat first | rw [nxn] | rw [nxp]);try omega) only [go_sem,ov,e0]
 refine loopK_of (RnL.rounds (Q:=fun ex u=>ex=.exit 0∧u.d=[]∧Mr id v h u.h (A++isort ltK Q++B))
  (fun m u=>u.d=[]∧u.t.get 0=some v∧u.t.get 1=some (.int .i64 (A.length:Nat))∧u.t.get 2=some (.int .i64 ((A.length+Q.length:Nat):Int))∧u.t.get 3=some fK∧∃k:Nat,u.t.get 8=some (.int .i64 ((A.length+k:Nat):Int))∧1≤k∧(k≤Q.length∨Q=[])∧Mr id v h u.h (A++isort ltK (Q.take k)++Q.drop k++B)∧m=Q.length-k) ?_ (Q.length-1) ?_) ?_
 ·rintro m ⟨tt,g,d⟩ ⟨e2,g0,g1,g2,g3,k,g8,hk,hkq,hmr,rfl⟩
  dsimp only at e2 g0 g1 g2 g3 g8 hmr
  subst e2
  by_cases c1:k<Q.length
  ·have c2:((A.length+k:Nat):Int)<((A.length+Q.length:Nat):Int):=by omega
   obtain ⟨x,hx⟩:∃x,Q[k]? = some x:=⟨_,List.getElem?_eq_getElem c1⟩
   have dx:Q.drop k=x::Q.drop (k+1):=by rw [List.drop_eq_getElem_cons c1,(List.getElem?_eq_some_iff.1 hx).2]
   have tx:Q.take (k+1)=Q.take k++[x]:=by rw [List.take_add_one,hx];rfl
   have hil:(isort ltK (Q.take k)).length=k:=by rw [isort_len,List.length_take];omega
   have hdl:(Q.drop (k+1)).length=Q.length-(k+1):=List.length_drop
   simp -dsimp (disch:=(repeat first | rw [nxn] | rw [nxp]);try omega) only [go_sem,c2,g0,g1,g2,g3,g8]
   refine loopK_of (RnL.rounds (Q:=fun ex u=>ex=.exit 2∧u.d=[]∧u.t.get 0=some v∧u.t.get 1=some (.int .i64 (A.length:Nat))∧u.t.get 2=some (.int .i64 ((A.length+Q.length:Nat):Int))∧u.t.get 3=some fK∧u.t.get 8=some (.int .i64 ((A.length+k:Nat):Int))∧Mr id v h u.h (A++isort ltK (Q.take (k+1))++Q.drop (k+1)++B))
    (fun m u=>u.d=[]∧u.t.get 0=some v∧u.t.get 1=some (.int .i64 (A.length:Nat))∧u.t.get 2=some (.int .i64 ((A.length+Q.length:Nat):Int))∧u.t.get 3=some fK∧u.t.get 8=some (.int .i64 ((A.length+k:Nat):Int))∧∃(n:Nat) (S1 S2:PL),u.t.get 9=some (.int .i64 ((A.length+n:Nat):Int))∧n=S1.length∧S1++S2=isort ltK (Q.take k)∧(∀y∈S2,ltK x y=true)∧Mr id v h u.h (A++S1++x::S2++Q.drop (k+1)++B)∧m=n) ?_ k ?_) ?_
   ·rintro m ⟨tt2,g',d2⟩ ⟨e2,g0,g1,g2,g3,g8,n,S1,S2,g9,hn,hs,hs2,hmr',rfl⟩
    dsimp only at e2 g0 g1 g2 g3 g8 g9 hmr'
    subst e2
    have hsl:S1.length+S2.length=k:=by rw [←hil,←hs,List.length_append]
    rcases List.eq_nil_or_concat S1 with rfl | ⟨T,y,rfl⟩
    ·have c3:¬((A.length:Nat):Int)<((A.length+m:Nat):Int):=by rw [hn];simp
     simp -dsimp (disch:=(repeat first | rw [nxn] | rw [nxp]);try omega) only [go_sem,c3,g0,g1,g2,g3,g8,g9]
     refine syDraw.keepN 0 (fun _=>True) (by kernel_rfl) (by kernel_rfl) rfl ?_
     simp -dsimp (disch:=(repeat first | rw [nxn] | rw [nxp]);try omega) only [go_sem,c3,g0,g1,g2,g3,g8,g9,ov,hf]
     have hq:isort ltK (Q.take (k+1))=x::S2:=by rw [tx];exact isort_snoc hs hs2 (by simp)
     exact ⟨trivial,trivial,trivial,trivial,trivial,trivial,trivial,by rw [hq];exact (hmr'.more (by omega)).eqL (by simp)⟩
    ·obtain ⟨p,hp⟩:∃p,p=(A++T).length:=⟨_,rfl⟩
     rw [List.concat_eq_append] at *
     have hn2:A.length+m=p+1:=by rw [hn,hp];simp;omega
     rw [hn2] at g9
     have c3:((A.length:Nat):Int)<((p+1:Nat):Int):=by rw [hp,List.length_append];omega
     have e5:((p+1:Nat):Int)-1=((p:Nat):Int):=by omega
     have eL:A++(T++[y])++x::S2++Q.drop (k+1)++B=(A++T)++y::x::(S2++Q.drop (k+1)++B):=by simp
     have hbl:(A++(T++[y])++x::S2++Q.drop (k+1)++B).length=(A++Q++B).length:=by
      rw [hlen];simp only [List.length_append,List.length_cons,List.length_nil] at hsl ⊢;omega
     generalize hlq:A++(T++[y])++x::S2++Q.drop (k+1)++B=l at hmr' hbl eL
     obtain ⟨⟨a1,a2,b1,b2,q1,q2,hll⟩,⟨s1,s2,b3⟩,_⟩:=nb eL hp
     have hmr2:=hmr'
     obtain ⟨nx1,ot1,⟨⟨c',hv',hc'⟩,hg1,hlt1⟩⟩:=hmr'
     have hv2:=hv'
     rw [hv'] at g0
     simp -dsimp (disch:=(repeat first | rw [nxn] | rw [nxp]);try omega) only [go_sem,c3,g0,g1,g2,g3,g8,g9]
     refine syDraw.keepN 0 (fun _=>True) (by kernel_rfl) (by kernel_rfl) rfl ?_
     simp -dsimp (disch:=(repeat first | rw [nxn] | rw [nxp]);try omega) only [go_sem,c3,g0,g1,g2,g3,g8,g9,e5,q1,q2,hg1,a1,a2,b1,b2,hf,fK]
     refine callK_of (keyC hTc _ x y) ?_
     rintro w g5 ⟨rfl,f5⟩
     have hmr5:=(hmr2.more (n:=g'.nx+17) (by omega)).fr f5
     have hg5:=hmr5.m.g
     cases hlx:lessA x.1 y.1
     ·have c6:¬cmpI x.1 y.1<0:=by rw [cmpI_neg,hlx];decide
      simp -dsimp (disch:=(repeat first | rw [nxn] | rw [nxp]);try omega) only [go_sem,c6,g0,g1,g2,g3,g8,g9]
      have hq:isort ltK (Q.take (k+1))=(T++[y])++x::S2:=by rw [tx];exact isort_snoc hs hs2 (srt_end (S2:=S2) (by rw [hs];exact srt_isort woK _) hlx)
      exact ⟨trivial,trivial,hv2.symm,trivial,trivial,trivial,trivial,by rw [hq];exact hmr5.eqL (by rw [←hlq];simp)⟩
     ·have c6:cmpI x.1 y.1<0:=by rw [cmpI_neg,hlx]
      simp -dsimp (disch:=(repeat first | rw [nxn] | rw [nxp]);try omega) only [go_sem,c6,g0,g1,g2,g3,g8,g9]
      refine syDraw.keepN 0 (fun _=>True) (by kernel_rfl) (by kernel_rfl) rfl ?_
      simp (maxSteps:=1000000) -dsimp (disch:=(repeat first | rw [nxn] | rw [nxp]);try omega) only [go_sem,g0,g1,g2,g3,g8,g9,e5,q1,q2,hg5,a1,a2,b1,b2,b3,s1,s2]
      refine ⟨T.length,by rw [hn];simp,trivial,hv2.symm,trivial,trivial,trivial,trivial,T.length,T,y::S2,by rw [hp,List.length_append],rfl,by rw [←hs];simp,?_,(hmr5.put2 hll (by omega)).eqL (by simp),rfl⟩
      intro z hz
      rcases List.mem_cons.1 hz with rfl | hz
      ·exact hlx
      ·exact hs2 z hz
   ·simp -dsimp (disch:=(repeat first | rw [nxn] | rw [nxp]);try omega) only [go_sem]
    exact ⟨trivial,g0,g1,g2,g3,g8,k,isort ltK (Q.take k),[],rfl,hil.symm,by simp,by simp,hmr.eqL (by rw [dx];simp),rfl⟩
   ·rintro ex ⟨tt2,g',d2⟩ ⟨rfl,rfl,g0,g1,g2,g3,g8,hmr'⟩
    dsimp only at g0 g1 g2 g3 g8 hmr'
    have e9:((A.length+k:Nat):Int)+1=((A.length+(k+1):Nat):Int):=by omega
    simp -dsimp (disch:=(repeat first | rw [nxn] | rw [nxp]);try omega) only [go_sem,g0,g1,g2,g3,g8,e9]
    exact ⟨Q.length-(k+1),by omega,trivial,trivial,trivial,trivial,trivial,k+1,rfl,by omega,.inl c1,hmr',rfl⟩
  ·have c2:¬((A.length+k:Nat):Int)<((A.length+Q.length:Nat):Int):=by omega
   simp -dsimp (disch:=(repeat first | rw [nxn] | rw [nxp]);try omega) only [go_sem,c2,g0,g1,g2,g3,g8]
   refine ⟨trivial,trivial,hmr.eqL ?_⟩
   rw [List.take_of_length_le (by omega),List.drop_eq_nil_of_le (by omega),List.append_nil]
 ·simp -dsimp (disch:=(repeat first | rw [nxn] | rw [nxp]);try omega) only [go_sem]
  refine ⟨trivial,trivial,trivial,trivial,trivial,1,rfl,Nat.le_refl _,?_,(Mr.refl hm).eqL ?_,rfl⟩
  ·rcases Q with _ | ⟨q,Q⟩
   ·exact .inr rfl
   ·exact .inl (by simp)
  ·rcases Q with _ | ⟨q,Q⟩
   ·simp [isort]
   ·simp [isort,ins]
 ·rintro ex ⟨tt,g,d⟩ ⟨rfl,rfl,hmr⟩
  dsimp only at hmr
  simp -dsimp (disch:=(repeat first | rw [nxn] | rw [nxp]);try omega) only [go_sem]
  exact hmr
end
theorem cvU (h:AH) (n:Nat) (hn:n≤4000000):evConvert Tryz.prog h 3 151 (.int .i64 ((n:Nat):Int))=some (.val (.int .u64 ((n:Nat):Int)) h):=by
 have e:IntKind.u64.wrap ((n:Nat):Int)=((n:Nat):Int):=by unfold IntKind.wrap;simp [IntKind.bits,IntKind.signed];omega
 simp [evConvert,Tryz.underlying3,Tryz.underlying151,val?,e]
theorem cvI (h:AH) (n:Nat) (hn:n≤4000000):evConvert Tryz.prog h 151 3 (.int .u64 ((n:Nat):Int))=some (.val (.int .i64 ((n:Nat):Int)) h):=by
 have e:IntKind.i64.wrap ((n:Nat):Int)=((n:Nat):Int):=by rw [wrap64_id (by omega) (by omega)]
 simp [evConvert,Tryz.underlying3,Tryz.underlying151,val?,e]
theorem shU (n:Nat):Int.fdiv ((n:Nat):Int) (2^min 1 64)=((n/2:Nat):Int):=by
 have e:(2:Int)^min 1 64=2:=rfl
 rw [e,Int.fdiv_eq_ediv_of_nonneg _ (by decide)]
 omega
theorem srt_get {R:PL} (hs:srt ltK R) {i j:Nat} {u w:Pr} (hij:i≤j) (hu:R[i]? = some u) (hw:R[j]? = some w):ltK w u=false:=by
 by_cases he:i=j
 ·subst he;rw [hu] at hw;cases hw;exact woK.irr _
 ·have hi:i<R.length:=(List.getElem?_eq_some_iff.1 hu).1
  have e:R=R.take j++R.drop j:=(List.take_append_drop _ _).symm
  rw [e] at hs
  refine (srt_app.1 hs).2.2 u (List.mem_iff_getElem?.2 ⟨i,by rw [List.getElem?_take_of_lt (by omega)];exact hu⟩) w (List.mem_iff_getElem?.2 ⟨0,by rw [List.getElem?_drop];simpa using hw⟩)
theorem below_x {R:PL} (hs:srt ltK R) {n:Nat} {w x:Pr} (hw:R[n]? = some w) (hx:ltK w x=true):∀u∈R.take (n+1),ltK u x=true:=fun u hu=>by
 obtain ⟨i,hi⟩:=List.mem_iff_getElem?.1 hu
 have hi2:i<n+1:=by
  have:=(List.getElem?_eq_some_iff.1 hi).1
  rw [List.length_take] at this;omega
 rw [List.getElem?_take_of_lt hi2] at hi
 have h1:=srt_get hs (show i≤n by omega) hi hw
 cases h2:ltK u x
 ·rw [woK.ntr w u x h1 h2] at hx;cases hx
 ·rfl
theorem over_x {R:PL} (hs:srt ltK R) {n:Nat} {w x:Pr} (hw:R[n]? = some w) (hx:ltK w x=false):∀u∈R.drop n,ltK u x=false:=fun u hu=>by
 obtain ⟨i,hi⟩:=List.mem_iff_getElem?.1 hu
 rw [List.getElem?_drop] at hi
 have h1:=srt_get hs (show n≤n+i by omega) hw hi
 exact woK.ntr u w x h1 hx
theorem below_y {L:PL} (hs:srt ltK L) {n:Nat} {w y:Pr} (hw:L[n]? = some w) (hy:ltK y w=false):∀u∈L.take (n+1),ltK y u=false:=fun u hu=>by
 obtain ⟨i,hi⟩:=List.mem_iff_getElem?.1 hu
 have hi2:i<n+1:=by
  have:=(List.getElem?_eq_some_iff.1 hi).1
  rw [List.length_take] at this;omega
 rw [List.getElem?_take_of_lt hi2] at hi
 exact woK.ntr y w u hy (srt_get hs (show i≤n by omega) hi hw)
theorem over_y {L:PL} (hs:srt ltK L) {n:Nat} {w y:Pr} (hw:L[n]? = some w) (hy:ltK y w=true):∀u∈L.drop n,ltK y u=true:=fun u hu=>by
 obtain ⟨i,hi⟩:=List.mem_iff_getElem?.1 hu
 rw [List.getElem?_drop] at hi
 have h1:=srt_get hs (show n≤n+i by omega) hw hi
 cases h2:ltK y u
 ·rw [woK.ntr y u w h2 h1] at hy;cases hy
 ·rfl
theorem mg_one1 {x:Pr} {R1 R2:PL} (hs:srt ltK (R1++R2)) (h1:∀u∈R1,ltK u x=true) (h2:∀u∈R2,ltK u x=false):mg ltK [x] (R1++R2)=R1++x::R2:=by
 have h3:=mg_split (lt:=ltK (α:=List Nat×Bool)) woK _ (a1:=[]) (a2:=[x]) (b1:=R1) (b2:=R2) (Nat.le_refl _) (by simp [srt]) hs (by simp) (by simpa using h1)
 rw [List.nil_append] at h3
 rw [h3]
 have e:mg ltK [] R1=R1:=by rw [mg]
 rw [e]
 cases R2 with
 | nil=>rw [mg_nil]
 | cons y R2=>rw [mg_cons,if_neg (by rw [h2 y (List.mem_cons_self ..)];decide),mg]
theorem mg_one2 {y:Pr} {L1 L2:PL} (hs:srt ltK (L1++L2)) (h1:∀u∈L1,ltK y u=false) (h2:∀u∈L2,ltK y u=true):mg ltK (L1++L2) [y]=L1++y::L2:=by
 have h3:=mg_split (lt:=ltK (α:=List Nat×Bool)) woK _ (a1:=L1) (a2:=L2) (b1:=[]) (b2:=[y]) (Nat.le_refl _) hs (by simp [srt]) (by simpa using h1) (by simp)
 rw [List.nil_append] at h3
 rw [h3,mg_nil]
 cases L2 with
 | nil=>rw [mg]
 | cons x L2=>rw [mg_cons,if_pos (h2 x (List.mem_cons_self ..)),mg_nil]
theorem at2 {l X Z:PL} {u:Pr} (hl:l=X++u::Z) {p:Nat} (hp:p=X.length):((l.flatMap pc).drop (p*3)).take 3=[.str u.1,.str u.2.1,.bool u.2.2]∧p*3+3≤(l.flatMap pc).length∧p<l.length:=by
 have g1:l[p]? = some u:=by rw [hl,hp];simp
 have hq:p<l.length:=by rw [hl,hp];simp
 exact ⟨pcAt g1,pcLe hq,hq⟩
theorem atR {l A R B:PL} (hl:l=A++R++B) {i p:Nat} {u:Pr} (hu:R[i]? = some u) (hp:p=A.length+i):((l.flatMap pc).drop (p*3)).take 3=[.str u.1,.str u.2.1,.bool u.2.2]∧p*3+3≤(l.flatMap pc).length∧p<l.length:=by
 have hi:=(List.getElem?_eq_some_iff.1 hu).1
 refine at2 (X:=A++R.take i) (Z:=R.drop (i+1)++B) (u:=u) ?_ (by rw [List.length_append,List.length_take];omega)
 rw [hl]
 have:R=R.take i++u::R.drop (i+1):=by
  conv=>lhs;rw [←List.take_append_drop i R,List.drop_eq_getElem_cons hi,(List.getElem?_eq_some_iff.1 hu).2]
 conv=>lhs;rw [this]
 simp
section
variable {S : Sums}
theorem symA (hS:Ts S) {h:AH} {id:Nat} {v:AV} {A R B:PL} {x:Pr} (hm:Mt id v h (A++[x]++R++B)) (hb:(A++[x]++R++B).length≤1000000) (hsr:srt ltK R) {a m b:Nat} (ha:a=A.length) (hm':m=A.length+1) (hb':b=A.length+1+R.length) :
  RnC Tryz.prog S 146 [v,.int .i64 (a:Nat),.int .i64 (m:Nat),.int .i64 (b:Nat),fK] h fun r h'=>Mr id v h h' (A++mg ltK [x] R++B):=by
 refine RnC.enter' Tryz.f146 _ 220 [] (hS.ns _ _ _ (by simp)) bd146 Tryz.func146 rfl rfl rfl ?_
 subst ha hm' hb'
 have hlen:(A++[x]++R++B).length=A.length+1+R.length+B.length:=by simp;omega
 have ov:oneA v=true:=by obtain ⟨⟨c,hv,_⟩,_⟩:=hm;rw [hv];rfl
 have hf:oneA fK=true:=rfl
 have hTc:=hS.tc
 have e0:((A.length+1:Nat):Int)-((A.length:Nat):Int)=1:=by omega
 simp -dsimp (disch:=(repeat first | rw [nxn] | rw [nxp]);try omega) only [go_sem,ov,e0]
 refine loopK_of (RnL.rounds (Q:=fun ex u=>ex=.exit 0∧u.d=[]∧u.t.get 0=some v∧u.t.get 1=some (.int .i64 (A.length:Nat))∧Mr id v h u.h (A++[x]++R++B)∧∃i:Nat,i≤R.length∧u.t.get 10=some (.int .i64 ((A.length+1+i:Nat):Int))∧(∀u∈R.take i,ltK u x=true)∧(∀u∈R.drop i,ltK u x=false))
  (fun k u=>u.d=[]∧u.t.get 0=some v∧u.t.get 1=some (.int .i64 (A.length:Nat))∧u.t.get 4=some fK∧Mr id v h u.h (A++[x]++R++B)∧∃i j:Nat,i≤j∧j≤R.length∧u.t.get 10=some (.int .i64 ((A.length+1+i:Nat):Int))∧u.t.get 11=some (.int .i64 ((A.length+1+j:Nat):Int))∧(∀u∈R.take i,ltK u x=true)∧(∀u∈R.drop j,ltK u x=false)∧k=j-i) ?_ R.length ?_) ?_
 ·rintro k ⟨tt,g,d⟩ ⟨e2,g0,g1,g4,hmr,i,j,hij,hj,g10,g11,h1,h2,rfl⟩
  dsimp only at e2 g0 g1 g4 g10 g11 hmr
  subst e2
  by_cases c1:i<j
  ·have c2:((A.length+1+i:Nat):Int)<((A.length+1+j:Nat):Int):=by omega
   have e1:((A.length+1+i:Nat):Int)+((A.length+1+j:Nat):Int)=((A.length+1+i+(A.length+1+j):Nat):Int):=by omega
   obtain ⟨q,hq⟩:∃q,q=(i+j)/2:=⟨_,rfl⟩
   have e3:(A.length+1+i+(A.length+1+j))/2=A.length+1+q:=by omega
   have hqr:q<R.length:=by omega
   obtain ⟨w,hw⟩:∃w,R[q]? = some w:=⟨_,List.getElem?_eq_getElem hqr⟩
   have hle:A.length+1+i+(A.length+1+j)≤4000000:=by omega
   have hle2:A.length+1+q≤4000000:=by omega
   have cv1:=fun h=>cvU h _ hle
   have cv2:=fun h=>cvI h _ hle2
   have sh:=shU (A.length+1+i+(A.length+1+j))
   rw [e3] at sh
   have hmr2:=hmr
   obtain ⟨a1,b1,q1⟩:=atR (l:=A++[x]++R++B) (A:=A++[x]) (R:=R) (B:=B) (p:=A.length+1+q) rfl hw (by simp)
   obtain ⟨a2,b2,q2⟩:=at2 (l:=A++[x]++R++B) (X:=A) (Z:=R++B) (u:=x) (p:=A.length) (by simp) rfl
   generalize hlq:A++[x]++R++B=l at hmr a1 b1 q1 a2 b2 q2 hlen
   obtain ⟨nx1,ot1,⟨⟨c',hv',hc'⟩,hg1,hlt1⟩⟩:=hmr
   have hv2:=hv'
   rw [hv'] at g0
   simp -dsimp (disch:=(repeat first | rw [nxn] | rw [nxp]);try omega) only [go_sem,c2,g0,g1,g4,g10,g11,e1,cv1,sh,cv2]
   refine syDraw.keepN 0 (fun _=>True) (by kernel_rfl) (by kernel_rfl) rfl ?_
   simp -dsimp (disch:=(repeat first | rw [nxn] | rw [nxp]);try omega) only [go_sem,g0,g1,g4,g10,g11,q1,q2,hg1,a1,a2,b1,b2,hf,fK]
   refine callK_of (keyC hTc _ w x) ?_
   rintro z g5 ⟨rfl,f5⟩
   have hmr5:=(hmr2.more (n:=g.nx+11) (by omega)).fr f5
   cases hlx:lessA w.1 x.1
   ·have c6:¬cmpI w.1 x.1<0:=by rw [cmpI_neg,hlx];decide
    simp -dsimp (disch:=(repeat first | rw [nxn] | rw [nxp]);try omega) only [go_sem,c6,g0,g1,g4,g10,g11]
    exact ⟨q-i,by omega,trivial,hv2.symm,trivial,trivial,hmr5.eqL hlq,i,q,by omega,by omega,rfl,rfl,h1,over_x hsr hw hlx,rfl⟩
   ·have c6:cmpI w.1 x.1<0:=by rw [cmpI_neg,hlx]
    have e7:((A.length+1+q:Nat):Int)+1=((A.length+1+(q+1):Nat):Int):=by omega
    simp -dsimp (disch:=(repeat first | rw [nxn] | rw [nxp]);try omega) only [go_sem,c6,e7,g0,g1,g4,g10,g11]
    exact ⟨j-(q+1),by omega,trivial,hv2.symm,trivial,trivial,hmr5.eqL hlq,q+1,j,by omega,by omega,rfl,rfl,below_x hsr hw hlx,h2,rfl⟩
  ·have c2:¬((A.length+1+i:Nat):Int)<((A.length+1+j:Nat):Int):=by omega
   obtain rfl:i=j:=by omega
   simp -dsimp (disch:=(repeat first | rw [nxn] | rw [nxp]);try omega) only [go_sem,c2,g0,g1,g4,g10,g11]
   exact ⟨trivial,trivial,trivial,trivial,hmr,i,hj,rfl,h1,h2⟩
 ·simp -dsimp (disch:=(repeat first | rw [nxn] | rw [nxp]);try omega) only [go_sem]
  exact ⟨trivial,trivial,trivial,trivial,Mr.refl hm,0,R.length,Nat.zero_le _,Nat.le_refl _,rfl,rfl,by simp,by simp,rfl⟩
 ·rintro ex ⟨tt,g,d⟩ ⟨rfl,rfl,g0,g1,hmr,i,hi,g10,h1,h2⟩
  dsimp only at g0 g1 g10 hmr
  have hmg:mg ltK [x] R=R.take i++x::R.drop i:=by
   have:=mg_one1 (x:=x) (R1:=R.take i) (R2:=R.drop i) (by rw [List.take_append_drop];exact hsr) h1 h2
   rw [List.take_append_drop] at this
   exact this
  have hRl:(R.take i).length=i:=by rw [List.length_take];omega
  have hRs:R.take i++R.drop i=R:=List.take_append_drop _ _
  generalize R.take i=R1 at hmg hRl hRs
  generalize R.drop i=R2 at hmg hRs
  have e8:((A.length+1+i:Nat):Int)-1=((A.length+i:Nat):Int):=by omega
  simp -dsimp (disch:=(repeat first | rw [nxn] | rw [nxp]);try omega) only [go_sem,g0,g1,g10]
  refine loopK_of (RnL.rounds (Q:=fun ex u=>ex=.exit 2∧u.d=[]∧Mr id v h u.h (A++mg ltK [x] R++B))
   (fun k u=>u.d=[]∧u.t.get 0=some v∧u.t.get 10=some (.int .i64 ((A.length+1+i:Nat):Int))∧∃n:Nat,n≤i∧u.t.get 13=some (.int .i64 ((A.length+n:Nat):Int))∧Mr id v h u.h (A++R1.take n++x::R1.drop n++R2++B)∧k=i-n) ?_ i ?_) ?_
  ·rintro k ⟨tt2,g',d2⟩ ⟨e2,g0,g10,n,hn,g13,hmr,rfl⟩
   dsimp only at e2 g0 g10 g13 hmr
   subst e2
   by_cases c1:n<i
   ·have c2:((A.length+n:Nat):Int)<((A.length+i:Nat):Int):=by omega
    obtain ⟨y,hy⟩:∃y,R1[n]? = some y:=⟨_,List.getElem?_eq_getElem (by omega)⟩
    have dy:R1.drop n=y::R1.drop (n+1):=by rw [List.drop_eq_getElem_cons (by omega),(List.getElem?_eq_some_iff.1 hy).2]
    have ty:R1.take (n+1)=R1.take n++[y]:=by rw [List.take_add_one,hy];rfl
    obtain ⟨p,hp⟩:∃p,p=(A++R1.take n).length:=⟨_,rfl⟩
    have hp2:A.length+n=p:=by rw [hp,List.length_append,List.length_take];omega
    rw [hp2] at c2 g13
    have e5:((p:Nat):Int)+1=((p+1:Nat):Int):=by omega
    have eL:A++R1.take n++x::R1.drop n++R2++B=(A++R1.take n)++x::y::(R1.drop (n+1)++R2++B):=by rw [dy];simp
    have hbl:(A++R1.take n++x::R1.drop n++R2++B).length=(A++[x]++R++B).length:=by
     have:=congrArg List.length hRs
     simp only [List.length_append] at this
     rw [hlen];simp only [List.length_append,List.length_cons,List.length_take,List.length_drop];omega
    generalize hlq:A++R1.take n++x::R1.drop n++R2++B=l at hmr hbl eL
    obtain ⟨⟨a1,a2,b1,b2,q1,q2,hll⟩,_,s1,s2,b3⟩:=nb eL hp
    have hmr2:=hmr
    obtain ⟨nx1,ot1,⟨⟨c',hv',hc'⟩,hg1,hlt1⟩⟩:=hmr
    have hv2:=hv'
    rw [hv'] at g0
    simp -dsimp (disch:=(repeat first | rw [nxn] | rw [nxp]);try omega) only [go_sem,c2,e8,g0,g10,g13]
    refine syDraw.keepN 0 (fun _=>True) (by kernel_rfl) (by kernel_rfl) rfl ?_
    simp -dsimp (disch:=(repeat first | rw [nxn] | rw [nxp]);try omega) only [go_sem,g0,g10,g13,e5,q1,q2,hg1,a1,a2,b1,b2,b3,s1,s2]
    exact ⟨i-(n+1),by omega,trivial,hv2.symm,trivial,n+1,by omega,by rw [←hp2];rfl,(hmr2.put2 hll (by omega)).eqL (by rw [ty];simp),rfl⟩
   ·have c2:¬((A.length+n:Nat):Int)<((A.length+i:Nat):Int):=by omega
    have:n=R1.length:=by omega
    subst this
    rw [List.take_length,List.drop_length] at hmr
    simp -dsimp (disch:=(repeat first | rw [nxn] | rw [nxp]);try omega) only [go_sem,c2,e8,g0,g10,g13]
    exact ⟨trivial,trivial,hmr.eqL (by rw [hmg];simp)⟩
  ·simp -dsimp (disch:=(repeat first | rw [nxn] | rw [nxp]);try omega) only [go_sem]
   exact ⟨trivial,g0,g10,0,Nat.zero_le _,rfl,hmr.eqL (by rw [←hRs];simp),rfl⟩
  ·rintro ex ⟨tt2,g',d2⟩ ⟨rfl,rfl,hmr⟩
   dsimp only at hmr
   simp -dsimp (disch:=(repeat first | rw [nxn] | rw [nxp]);try omega) only [go_sem]
   exact hmr
end
section
variable {S : Sums}
theorem symB (hS:Ts S) {h:AH} {id:Nat} {v:AV} {A L B:PL} {y:Pr} (hm:Mt id v h (A++L++[y]++B)) (hb:(A++L++[y]++B).length≤1000000) (hsl:srt ltK L) (hL:1<L.length) {a m b:Nat} (ha:a=A.length) (hm':m=A.length+L.length) (hb':b=A.length+L.length+1) :
  RnC Tryz.prog S 146 [v,.int .i64 (a:Nat),.int .i64 (m:Nat),.int .i64 (b:Nat),fK] h fun r h'=>Mr id v h h' (A++mg ltK L [y]++B):=by
 refine RnC.enter' Tryz.f146 _ 220 [] (hS.ns _ _ _ (by simp)) bd146 Tryz.func146 rfl rfl rfl ?_
 subst ha hm' hb'
 have hlen:(A++L++[y]++B).length=A.length+L.length+1+B.length:=by simp;omega
 have ov:oneA v=true:=by obtain ⟨⟨c,hv,_⟩,_⟩:=hm;rw [hv];rfl
 have hf:oneA fK=true:=rfl
 have hTc:=hS.tc
 have e0:((A.length+L.length:Nat):Int)-((A.length:Nat):Int)=((L.length:Nat):Int):=by omega
 have c0:¬((L.length:Nat):Int)=1:=by omega
 have e00:((A.length+L.length+1:Nat):Int)-((A.length+L.length:Nat):Int)=1:=by omega
 simp -dsimp (disch:=(repeat first | rw [nxn] | rw [nxp]);try omega) only [go_sem,ov,e0,c0,e00]
 refine loopK_of (RnL.rounds (Q:=fun ex u=>ex=.exit 4∧u.d=[]∧u.t.get 0=some v∧u.t.get 2=some (.int .i64 ((A.length+L.length:Nat):Int))∧Mr id v h u.h (A++L++[y]++B)∧∃i:Nat,i≤L.length∧u.t.get 14=some (.int .i64 ((A.length+i:Nat):Int))∧(∀u∈L.take i,ltK y u=false)∧(∀u∈L.drop i,ltK y u=true))
  (fun k u=>u.d=[]∧u.t.get 0=some v∧u.t.get 2=some (.int .i64 ((A.length+L.length:Nat):Int))∧u.t.get 4=some fK∧Mr id v h u.h (A++L++[y]++B)∧∃i j:Nat,i≤j∧j≤L.length∧u.t.get 14=some (.int .i64 ((A.length+i:Nat):Int))∧u.t.get 15=some (.int .i64 ((A.length+j:Nat):Int))∧(∀u∈L.take i,ltK y u=false)∧(∀u∈L.drop j,ltK y u=true)∧k=j-i) ?_ L.length ?_) ?_
 ·rintro k ⟨tt,g,d⟩ ⟨e2,g0,g2,g4,hmr,i,j,hij,hj,g14,g15,h1,h2,rfl⟩
  dsimp only at e2 g0 g2 g4 g14 g15 hmr
  subst e2
  by_cases c1:i<j
  ·have c2:((A.length+i:Nat):Int)<((A.length+j:Nat):Int):=by omega
   have e1:((A.length+i:Nat):Int)+((A.length+j:Nat):Int)=((A.length+i+(A.length+j):Nat):Int):=by omega
   obtain ⟨q,hq⟩:∃q,q=(i+j)/2:=⟨_,rfl⟩
   have e3:(A.length+i+(A.length+j))/2=A.length+q:=by omega
   have hqr:q<L.length:=by omega
   obtain ⟨w,hw⟩:∃w,L[q]? = some w:=⟨_,List.getElem?_eq_getElem hqr⟩
   have hle:A.length+i+(A.length+j)≤4000000:=by omega
   have hle2:A.length+q≤4000000:=by omega
   have cv1:=fun h=>cvU h _ hle
   have cv2:=fun h=>cvI h _ hle2
   have sh:=shU (A.length+i+(A.length+j))
   rw [e3] at sh
   have hmr2:=hmr
   obtain ⟨a1,b1,q1⟩:=atR (l:=A++L++[y]++B) (A:=A) (R:=L) (B:=[y]++B) (p:=A.length+q) (by simp) hw rfl
   obtain ⟨a2,b2,q2⟩:=at2 (l:=A++L++[y]++B) (X:=A++L) (Z:=B) (u:=y) (p:=A.length+L.length) (by simp) (by simp)
   generalize hlq:A++L++[y]++B=l at hmr a1 b1 q1 a2 b2 q2 hlen
   obtain ⟨nx1,ot1,⟨⟨c',hv',hc'⟩,hg1,hlt1⟩⟩:=hmr
   have hv2:=hv'
   rw [hv'] at g0
   simp -dsimp (disch:=(repeat first | rw [nxn] | rw [nxp]);try omega) only [go_sem,c2,g0,g2,g4,g14,g15,e1,cv1,sh,cv2]
   refine syDraw.keepN 0 (fun _=>True) (by kernel_rfl) (by kernel_rfl) rfl ?_
   simp -dsimp (disch:=(repeat first | rw [nxn] | rw [nxp]);try omega) only [go_sem,g0,g2,g4,g14,g15,q1,q2,hg1,a1,a2,b1,b2,hf,fK]
   refine callK_of (keyC hTc _ y w) ?_
   rintro z g5 ⟨rfl,f5⟩
   have hmr5:=(hmr2.more (n:=g.nx+12) (by omega)).fr f5
   cases hlx:lessA y.1 w.1
   ·have c6:¬cmpI y.1 w.1<0:=by rw [cmpI_neg,hlx];decide
    have e7:((A.length+q:Nat):Int)+1=((A.length+(q+1):Nat):Int):=by omega
    simp -dsimp (disch:=(repeat first | rw [nxn] | rw [nxp]);try omega) only [go_sem,c6,e7,g0,g2,g4,g14,g15]
    exact ⟨j-(q+1),by omega,trivial,hv2.symm,trivial,trivial,hmr5.eqL hlq,q+1,j,by omega,by omega,rfl,rfl,below_y hsl hw hlx,h2,rfl⟩
   ·have c6:cmpI y.1 w.1<0:=by rw [cmpI_neg,hlx]
    simp -dsimp (disch:=(repeat first | rw [nxn] | rw [nxp]);try omega) only [go_sem,c6,g0,g2,g4,g14,g15]
    exact ⟨q-i,by omega,trivial,hv2.symm,trivial,trivial,hmr5.eqL hlq,i,q,by omega,by omega,rfl,rfl,h1,over_y hsl hw hlx,rfl⟩
  ·have c2:¬((A.length+i:Nat):Int)<((A.length+j:Nat):Int):=by omega
   obtain rfl:i=j:=by omega
   simp -dsimp (disch:=(repeat first | rw [nxn] | rw [nxp]);try omega) only [go_sem,c2,g0,g2,g4,g14,g15]
   exact ⟨trivial,trivial,trivial,trivial,hmr,i,hj,rfl,h1,h2⟩
 ·simp -dsimp (disch:=(repeat first | rw [nxn] | rw [nxp]);try omega) only [go_sem]
  exact ⟨trivial,trivial,trivial,trivial,Mr.refl hm,0,L.length,Nat.zero_le _,Nat.le_refl _,rfl,rfl,by simp,by simp,rfl⟩
 ·rintro ex ⟨tt,g,d⟩ ⟨rfl,rfl,g0,g2,hmr,i,hi,g14,h1,h2⟩
  dsimp only at g0 g2 g14 hmr
  have hmg:mg ltK L [y]=L.take i++y::L.drop i:=by
   have:=mg_one2 (y:=y) (L1:=L.take i) (L2:=L.drop i) (by rw [List.take_append_drop];exact hsl) h1 h2
   rw [List.take_append_drop] at this
   exact this
  simp -dsimp (disch:=(repeat first | rw [nxn] | rw [nxp]);try omega) only [go_sem,g0,g2,g14]
  refine loopK_of (RnL.rounds (Q:=fun ex u=>ex=.exit 6∧u.d=[]∧Mr id v h u.h (A++mg ltK L [y]++B))
   (fun k u=>u.d=[]∧u.t.get 0=some v∧u.t.get 14=some (.int .i64 ((A.length+i:Nat):Int))∧∃n:Nat,i≤n∧n≤L.length∧u.t.get 17=some (.int .i64 ((A.length+n:Nat):Int))∧Mr id v h u.h (A++L.take n++y::L.drop n++B)∧k=n-i) ?_ (L.length-i) ?_) ?_
  ·rintro k ⟨tt2,g',d2⟩ ⟨e2,g0,g14,n,hn,hnl,g17,hmr,rfl⟩
   dsimp only at e2 g0 g14 g17 hmr
   subst e2
   by_cases c1:i<n
   ·obtain ⟨n,rfl⟩:∃n',n=n'+1:=⟨n-1,by omega⟩
    have c2:((A.length+i:Nat):Int)<((A.length+(n+1):Nat):Int):=by omega
    obtain ⟨x,hx⟩:∃x,L[n]? = some x:=⟨_,List.getElem?_eq_getElem (by omega)⟩
    have dx:L.drop n=x::L.drop (n+1):=by rw [List.drop_eq_getElem_cons (by omega),(List.getElem?_eq_some_iff.1 hx).2]
    have tx:L.take (n+1)=L.take n++[x]:=by rw [List.take_add_one,hx];rfl
    obtain ⟨p,hp⟩:∃p,p=(A++L.take n).length:=⟨_,rfl⟩
    have hp2:A.length+(n+1)=p+1:=by rw [hp,List.length_append,List.length_take];omega
    rw [hp2] at c2 g17
    have e5:((p+1:Nat):Int)-1=((p:Nat):Int):=by omega
    have eL:A++L.take (n+1)++y::L.drop (n+1)++B=(A++L.take n)++x::y::(L.drop (n+1)++B):=by rw [tx];simp
    have hbl:(A++L.take (n+1)++y::L.drop (n+1)++B).length=(A++L++[y]++B).length:=by
     rw [hlen];simp only [List.length_append,List.length_cons,List.length_take,List.length_drop];omega
    generalize hlq:A++L.take (n+1)++y::L.drop (n+1)++B=l at hmr hbl eL
    obtain ⟨⟨a1,a2,b1,b2,q1,q2,hll⟩,⟨s1,s2,b3⟩,_⟩:=nb eL hp
    have hmr2:=hmr
    obtain ⟨nx1,ot1,⟨⟨c',hv',hc'⟩,hg1,hlt1⟩⟩:=hmr
    have hv2:=hv'
    rw [hv'] at g0
    simp -dsimp (disch:=(repeat first | rw [nxn] | rw [nxp]);try omega) only [go_sem,c2,g0,g14,g17]
    refine syDraw.keepN 0 (fun _=>True) (by kernel_rfl) (by kernel_rfl) rfl ?_
    simp -dsimp (disch:=(repeat first | rw [nxn] | rw [nxp]);try omega) only [go_sem,g0,g14,g17,e5,q1,q2,hg1,a1,a2,b1,b2,b3,s1,s2]
    exact ⟨n-i,by omega,trivial,hv2.symm,trivial,n,by omega,by omega,by rw [show A.length+n=p by omega],(hmr2.put2 hll (by omega)).eqL (by rw [dx];simp),rfl⟩
   ·have c2:¬((A.length+i:Nat):Int)<((A.length+n:Nat):Int):=by omega
    obtain rfl:n=i:=by omega
    simp -dsimp (disch:=(repeat first | rw [nxn] | rw [nxp]);try omega) only [go_sem,c2,g0,g14,g17]
    exact ⟨trivial,trivial,hmr.eqL (by rw [hmg];simp)⟩
  ·simp -dsimp (disch:=(repeat first | rw [nxn] | rw [nxp]);try omega) only [go_sem]
   exact ⟨trivial,g0,g14,L.length,hi,Nat.le_refl _,rfl,hmr.eqL (by simp),rfl⟩
  ·rintro ex ⟨tt2,g',d2⟩ ⟨rfl,rfl,hmr⟩
   dsimp only at hmr
   simp -dsimp (disch:=(repeat first | rw [nxn] | rw [nxp]);try omega) only [go_sem]
   exact hmr
end
end Go.Proofs.YtaooopaemphfjaaGreatDoor.tbl
end
section
namespace Go.Abs
open Go
section
variable (P : Program) (S : Sums)
def RnK (r:Option Nat) (fn:FuncId) (n:Nat) (c:Code) (s:St) (Q:Ex→St→Prop):Prop:=∃k ex s',evCode P (evN P S k) r fn n c s=some (ex,s')∧Q ex s'
variable {P S} {r : Option Nat} {fn : FuncId} {n : Nat}
theorem RnK.sy {c:Code} {s:St} {Q:Ex→St→Prop} (h:syC P S r fn n c s Q):RnK P S r fn n c s Q:=syC_sound h
theorem RnK.cut {a b:Code} {s:St} {Q:Ex→St→Prop} (X:St→Prop) (ha:RnK P S r fn n a s fun ex u=>ex=.normal∧X u) (hb:∀u,X u→RnK P S r fn n b u Q):RnK P S r fn n (.seq a b) s Q:=by
 obtain ⟨k1,ex,s1,e1,rfl,hw1⟩:=ha
 obtain ⟨k2,ex2,s2,e2,hw2⟩:=hb s1 hw1
 refine ⟨max k1 k2,ex2,s2,?_,hw2⟩
 unfold evCode
 rw [evCode_mono (evN_mono (Nat.le_max_left k1 k2)) e1]
 exact evCode_mono (evN_mono (Nat.le_max_right k1 k2)) e2
theorem RnK.left {a b c:Code} {s:St} {Q:Ex→St→Prop} (h:RnK P S r fn n (.seq (.seq a b) c) s Q):RnK P S r fn n (.seq a (.seq b c)) s Q:=by
 obtain ⟨k,ex,s1,e1,hw⟩:=h
 refine ⟨k,ex,s1,?_,hw⟩
 rw [←e1]
 simp only [evCode]
 cases evCode P (evN P S k) r fn n a s with
 | none=>rfl
 | some x=>rcases x with ⟨_ | _ | _,_⟩ <;> rfl
theorem RnC.enterK {f:FuncId} {args:List AV} {h:AH} {Q:AV→AH→Prop} (g:Func) (c:Code) (m:Nat) (rs:List ResultVar) (hs:S f args h=none) (hb:bodied P f=true) (hf:P.funcs[f]? = some g) (hc:g.body=some c) (hn:nTmps g args=m)
  (hr:g.results.toList=rs) (hw:RnK P S none f m c { t:=argsEnv args 0 .nil,h,d:=[] } (syEnd P rs Q)):RnC P S f args h Q:=by
 subst hn;subst hr
 obtain ⟨k,ex,s,h1,h2⟩:=hw
 refine ⟨k+1,?_⟩
 show ∃v h',evFn P S (evN P S k) f args h=some (v,h')∧Q v h'
 unfold evFn
 rw [hs]
 simp only
 rw [if_neg (by simp [hb]),hf]
 simp only
 rw [hc]
 simp only
 rw [h1]
 cases ex with
 | exit i=>exact h2.elim
 | normal=>obtain ⟨h',e1,v,e2,e3⟩:=h2;exact ⟨v,h',by simp only [e1,e2,Option.map_some],e3⟩
 | ret=>obtain ⟨h',e1,v,e2,e3⟩:=h2;exact ⟨v,h',by simp only [e1,e2,Option.map_some],e3⟩
end
end Go.Abs
end