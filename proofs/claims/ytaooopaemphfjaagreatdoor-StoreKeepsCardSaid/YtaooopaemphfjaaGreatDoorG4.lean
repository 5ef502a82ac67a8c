/- Texts joined: RBf, RBg, RBh, RBi, RBj, RCb. -/
import Derived.Test.YtaooopaemphfjaaGreatDoorG3
set_option maxRecDepth 100000
set_option linter.unusedVariables false
set_option linter.unusedSimpArgs false
set_option maxHeartbeats 32000000
section
namespace Go.Proofs.YtaooopaemphfjaaGreatDoor.tbl
open Go Go.Abs Go.Abs.Rec Go.Abs.Stb Go.Proofs
section
variable {S : Sums}
theorem symC (hS:Ts S):∀(n:Nat) {h:AH} {id:Nat} {v:AV} {A L R B:PL},L.length+R.length≤n→Mt id v h (A++L++R++B)→(A++L++R++B).length≤1000000→srt ltK L→srt ltK R→0<L.length→0<R.length→∀ {a m b:Nat},a=A.length→m=A.length+L.length→b=A.length+L.length+R.length →
  RnC Tryz.prog S 146 [v,.int .i64 (a:Nat),.int .i64 (m:Nat),.int .i64 (b:Nat),fK] h fun r h'=>Mr id v h h' (A++mg ltK L R++B):=by
 intro n
 induction n with
 | zero =>
  intro _ _ _ _ _ _ _ hn _ _ _ _ hL
  omega
 | succ n ih =>
  intro h id v A L R B hn hm hb hsl hsr hL hR a m b ha hm' hb'
  by_cases hL1:L.length=1
  ·obtain ⟨x,rfl⟩:=List.length_eq_one_iff.1 hL1
   exact symA hS hm hb hsr ha hm' hb'
  by_cases hR1:R.length=1
  ·obtain ⟨y,rfl⟩:=List.length_eq_one_iff.1 hR1
   exact symB hS hm hb hsl (by omega) ha hm' hb'
  refine RnC.enterK Tryz.f146 _ 220 [] (hS.ns _ _ _ (by simp)) bd146 Tryz.func146 rfl rfl rfl ?_
  subst ha hm' hb'
  have hlen:(A++L++R++B).length=A.length+L.length+R.length+B.length:=by simp;omega
  have ov:oneA v=true:=by obtain ⟨⟨c,hv,_⟩,_⟩:=hm;rw [hv];rfl
  have hf:oneA fK=true:=rfl
  have hTc:=hS.tc
  have e0:((A.length+L.length:Nat):Int)-((A.length:Nat):Int)=((L.length:Nat):Int):=by omega
  have c0:¬((L.length:Nat):Int)=1:=by omega
  have e00:((A.length+L.length+R.length:Nat):Int)-((A.length+L.length:Nat):Int)=((R.length:Nat):Int):=by omega
  have c00:¬((R.length:Nat):Int)=1:=by omega
  obtain ⟨M,hM⟩:∃M,M=(L.length+R.length)/2:=⟨_,rfl⟩
  have e1:((A.length:Nat):Int)+((A.length+L.length+R.length:Nat):Int)=((A.length+(A.length+L.length+R.length):Nat):Int):=by omega
  have e2:(A.length+(A.length+L.length+R.length))/2=A.length+M:=by omega
  have hle:A.length+(A.length+L.length+R.length)≤4000000:=by omega
  have hle2:A.length+M≤4000000:=by omega
  have cv1:=fun h=>cvU h _ hle
  have cv2:=fun h=>cvI h _ hle2
  have sh:=shU (A.length+(A.length+L.length+R.length))
  rw [e2] at sh
  have e3:((A.length+M:Nat):Int)+((A.length+L.length:Nat):Int)=((A.length+M+(A.length+L.length):Nat):Int):=by omega
  have e4:((A.length+M+(A.length+L.length):Nat):Int)-1=((A.length+M+(A.length+L.length)-1:Nat):Int):=by omega
  have key:∃s t:Nat,(M<L.length→s=M-R.length∧t=M)∧(L.length≤M→s=0∧t=L.length)∧s≤t∧t≤L.length∧t≤M∧M≤s+R.length:=by
   rcases Nat.lt_or_ge M L.length with c | c
   ·exact ⟨M-R.length,M,fun _=>⟨rfl,rfl⟩,fun hh=>by omega,by omega,by omega,by omega,by omega⟩
   ·exact ⟨0,L.length,fun hh=>by omega,fun _=>⟨rfl,rfl⟩,by omega,by omega,by omega,by omega⟩
  obtain ⟨s0,t0,hk1,hk2,hk3,hk4,hk5,hk6⟩:=key
  have hF:∀x∈L.take s0,∀y∈R.drop (M-s0),ltK y x=false:=by
   rcases Nat.lt_or_ge M L.length with c | c
   ·rw [(hk1 c).1,show M-(M-R.length)=R.length by omega];simp
   ·rw [(hk2 c).1];simp
  have hG:∀x∈L.drop t0,∀y∈R.take (M-t0),ltK y x=true:=by
   rcases Nat.lt_or_ge M L.length with c | c
   ·rw [(hk1 c).2];simp
   ·rw [(hk2 c).2];simp
  refine RnK.left (RnK.left (RnK.left (RnK.left (RnK.left ?_))))
  refine RnK.cut (fun u=>u.d=[]∧u.t.get 0=some v∧u.t.get 1=some (.int .i64 (A.length:Nat))∧u.t.get 2=some (.int .i64 ((A.length+L.length:Nat):Int))∧u.t.get 3=some (.int .i64 ((A.length+L.length+R.length:Nat):Int))∧u.t.get 4=some fK∧u.t.get 18=some (.int .i64 ((A.length+M:Nat):Int))∧u.t.get 19=some (.int .i64 ((A.length+M+(A.length+L.length):Nat):Int))∧u.t.get 20=some (.int .i64 ((A.length+s0:Nat):Int))∧u.t.get 21=some (.int .i64 ((A.length+t0:Nat):Int))∧u.h=h) (.sy ?_) ?_
  ·rcases (show M<L.length∨L.length≤M by omega) with c1 | c1
   ·have c2:((A.length+M:Nat):Int)<((A.length+L.length:Nat):Int):=by omega
    have e5:((A.length+M+(A.length+L.length):Nat):Int)-((A.length+L.length+R.length:Nat):Int)=((A.length+s0:Nat):Int):=by rw [(hk1 c1).1];omega
    have e6:A.length+M=A.length+t0:=by rw [(hk1 c1).2]
    simp -dsimp (disch:=(repeat first | rw [nxn] | rw [nxp]);try omega) only [go_sem,ov,e0,c0,e00,c00,e1,cv1,sh,cv2,e3,e4,c2,e5]
    exact ⟨trivial,trivial,trivial,trivial,trivial,trivial,trivial,trivial,trivial,trivial,by rw [←e6],trivial⟩
   ·have c2:¬((A.length+M:Nat):Int)<((A.length+L.length:Nat):Int):=by omega
    have e5:A.length=A.length+s0:=by rw [(hk2 c1).1];rfl
    have e6:A.length+L.length=A.length+t0:=by rw [(hk2 c1).2]
    simp -dsimp (disch:=(repeat first | rw [nxn] | rw [nxp]);try omega) only [go_sem,ov,e0,c0,e00,c00,e1,cv1,sh,cv2,e3,e4,c2]
    exact ⟨trivial,trivial,trivial,trivial,trivial,trivial,trivial,trivial,trivial,by rw [←e5],by rw [←e6],trivial⟩
  rintro ⟨tt,gg,dd⟩ ⟨e9,g0,g1,g2,g3,g4,g18,g19,g20,g21,eh⟩
  dsimp only at e9 g0 g1 g2 g3 g4 g18 g19 g20 g21 eh
  subst e9 eh
  refine RnK.left ?_
  refine RnK.cut (fun u=>u.d=[]∧u.t.get 0=some v∧u.t.get 1=some (.int .i64 (A.length:Nat))∧u.t.get 2=some (.int .i64 ((A.length+L.length:Nat):Int))∧u.t.get 3=some (.int .i64 ((A.length+L.length+R.length:Nat):Int))∧u.t.get 4=some fK∧u.t.get 18=some (.int .i64 ((A.length+M:Nat):Int))∧u.t.get 19=some (.int .i64 ((A.length+M+(A.length+L.length):Nat):Int))∧Mr id v gg u.h (A++L++R++B)∧∃s:Nat,s≤L.length∧s≤M∧M≤s+R.length∧u.t.get 20=some (.int .i64 ((A.length+s:Nat):Int))∧(∀x∈L.take s,∀y∈R.drop (M-s),ltK y x=false)∧(∀x∈L.drop s,∀y∈R.take (M-s),ltK y x=true)) (.sy ?_) ?_
  ·simp -dsimp (disch:=(repeat first | rw [nxn] | rw [nxp]);try omega) only [go_sem,e4,g0,g1,g2,g3,g4,g18,g19,g20,g21]
   refine loopK_of (RnL.rounds (Q:=fun ex u=>ex=.exit 8∧u.d=[]∧u.t.get 0=some v∧u.t.get 1=some (.int .i64 (A.length:Nat))∧u.t.get 2=some (.int .i64 ((A.length+L.length:Nat):Int))∧u.t.get 3=some (.int .i64 ((A.length+L.length+R.length:Nat):Int))∧u.t.get 4=some fK∧u.t.get 18=some (.int .i64 ((A.length+M:Nat):Int))∧u.t.get 19=some (.int .i64 ((A.length+M+(A.length+L.length):Nat):Int))∧Mr id v gg u.h (A++L++R++B)∧∃s:Nat,s≤L.length∧s≤M∧M≤s+R.length∧u.t.get 20=some (.int .i64 ((A.length+s:Nat):Int))∧(∀x∈L.take s,∀y∈R.drop (M-s),ltK y x=false)∧(∀x∈L.drop s,∀y∈R.take (M-s),ltK y x=true))
    (fun k u=>u.d=[]∧u.t.get 0=some v∧u.t.get 1=some (.int .i64 (A.length:Nat))∧u.t.get 2=some (.int .i64 ((A.length+L.length:Nat):Int))∧u.t.get 3=some (.int .i64 ((A.length+L.length+R.length:Nat):Int))∧u.t.get 4=some fK∧u.t.get 18=some (.int .i64 ((A.length+M:Nat):Int))∧u.t.get 19=some (.int .i64 ((A.length+M+(A.length+L.length):Nat):Int))∧u.t.get 22=some (.int .i64 ((A.length+M+(A.length+L.length)-1:Nat):Int))∧Mr id v gg u.h (A++L++R++B)∧∃s t:Nat,s≤t∧t≤L.length∧t≤M∧M≤s+R.length∧u.t.get 20=some (.int .i64 ((A.length+s:Nat):Int))∧u.t.get 21=some (.int .i64 ((A.length+t:Nat):Int))∧(∀x∈L.take s,∀y∈R.drop (M-s),ltK y x=false)∧(∀x∈L.drop t,∀y∈R.take (M-t),ltK y x=true)∧t-s≤k) ?_ L.length ?_) ?_
   ·rintro k ⟨tt,g,d⟩ ⟨e9,g0,g1,g2,g3,g4,g18,g19,g22,hmr,s,t,h1,h2,h3,h4,g20,g21,h5,h6,h7⟩
    dsimp only at e9 g0 g1 g2 g3 g4 g18 g19 g20 g21 g22 hmr
    subst e9
    by_cases d1:s<t
    ·have d2:((A.length+s:Nat):Int)<((A.length+t:Nat):Int):=by omega
     have e1:((A.length+s:Nat):Int)+((A.length+t:Nat):Int)=((A.length+s+(A.length+t):Nat):Int):=by omega
     obtain ⟨q,hq⟩:∃q,q=(s+t)/2:=⟨_,rfl⟩
     have e3:(A.length+s+(A.length+t))/2=A.length+q:=by omega
     have hle:A.length+s+(A.length+t)≤4000000:=by omega
     have hle2:A.length+q≤4000000:=by omega
     have cv1:=fun h=>cvU h _ hle
     have cv2:=fun h=>cvI h _ hle2
     have sh:=shU (A.length+s+(A.length+t))
     rw [e3] at sh
     obtain ⟨x,hx⟩:∃x,L[q]? = some x:=⟨_,List.getElem?_eq_getElem (by omega)⟩
     obtain ⟨y,hy⟩:∃y,R[M-1-q]? = some y:=⟨_,List.getElem?_eq_getElem (by omega)⟩
     have e8:((A.length+M+(A.length+L.length)-1:Nat):Int)-((A.length+q:Nat):Int)=((A.length+L.length+(M-1-q):Nat):Int):=by omega
     have hmr2:=hmr
     obtain ⟨a1,b1,q1⟩:=atR (l:=A++L++R++B) (A:=A) (R:=L) (B:=R++B) (p:=A.length+q) (by simp) hx rfl
     obtain ⟨a2,b2,q2⟩:=atR (l:=A++L++R++B) (A:=A++L) (R:=R) (B:=B) (p:=A.length+L.length+(M-1-q)) rfl hy (by simp)
     generalize hlq:A++L++R++B=l at hmr a1 b1 q1 a2 b2 q2 hlen
     obtain ⟨nx1,ot1,⟨⟨c',hv',hc'⟩,hg1,hlt1⟩⟩:=hmr
     have hv2:=hv'
     rw [hv'] at g0
     simp -dsimp (disch:=(repeat first | rw [nxn] | rw [nxp]);try omega) only [go_sem,d2,g0,g1,g2,g3,g4,g18,g19,g20,g21,g22,e1,cv1,sh,cv2]
     refine syDraw.keepN 0 (fun _=>True) (by kernel_rfl) (by kernel_rfl) rfl ?_
     simp -dsimp (disch:=(repeat first | rw [nxn] | rw [nxp]);try omega) only [go_sem,g0,g1,g2,g3,g4,g18,g19,g20,g21,g22,q1,q2,hg1,a1,a2,b1,b2,hf,fK,e8]
     refine callK_of (keyC hTc _ y x) ?_
     rintro z g5 ⟨rfl,f5⟩
     have hmr5:=(hmr2.more (n:=g.nx+14) (by omega)).fr f5
     cases hlx:lessA y.1 x.1
     ·have c6:¬cmpI y.1 x.1<0:=by rw [cmpI_neg,hlx];decide
      have e7:((A.length+q:Nat):Int)+1=((A.length+(q+1):Nat):Int):=by omega
      simp -dsimp (disch:=(repeat first | rw [nxn] | rw [nxp]);try omega) only [go_sem,c6,e7,g0,g1,g2,g3,g4,g18,g19,g20,g21,g22]
      refine ⟨k-1,by omega,trivial,hv2.symm,trivial,trivial,trivial,trivial,trivial,trivial,trivial,hmr5.eqL hlq,q+1,t,by omega,by omega,by omega,by omega,rfl,rfl,fun x' hx'=>?_,h6,by omega⟩
      rw [show M-(q+1)=M-1-q by omega]
      exact over_x hsr hy (below_y hsl hx hlx x' hx')
     ·have c6:cmpI y.1 x.1<0:=by rw [cmpI_neg,hlx]
      simp -dsimp (disch:=(repeat first | rw [nxn] | rw [nxp]);try omega) only [go_sem,c6,g0,g1,g2,g3,g4,g18,g19,g20,g21,g22]
      refine ⟨k-1,by omega,trivial,hv2.symm,trivial,trivial,trivial,trivial,trivial,trivial,trivial,hmr5.eqL hlq,s,q,by omega,by omega,by omega,by omega,rfl,rfl,h5,fun x' hx' y' hy'=>?_,by omega⟩
      rw [show M-q=M-1-q+1 by omega] at hy'
      exact over_y hsl hx (below_x hsr hy hlx y' hy') x' hx'
    ·have d2:¬((A.length+s:Nat):Int)<((A.length+t:Nat):Int):=by omega
     obtain rfl:s=t:=by omega
     simp -dsimp (disch:=(repeat first | rw [nxn] | rw [nxp]);try omega) only [go_sem,d2,g0,g1,g2,g3,g4,g18,g19,g20,g21,g22]
     exact ⟨trivial,trivial,trivial,trivial,trivial,trivial,trivial,trivial,trivial,hmr,s,h2,h3,h4,rfl,h5,h6⟩
   ·simp -dsimp (disch:=(repeat first | rw [nxn] | rw [nxp]);try omega) only [go_sem]
    exact ⟨trivial,g0,g1,g2,g3,g4,g18,g19,trivial,Mr.refl hm,s0,t0,hk3,hk4,hk5,hk6,g20,g21,hF,hG,by omega⟩
   ·rintro ex u ⟨rfl,hu⟩
    simp -dsimp (disch:=(repeat first | rw [nxn] | rw [nxp]);try omega) only [go_sem]
    exact ⟨trivial,hu⟩
  rintro ⟨tt,g,d⟩ ⟨e9,g0,g1,g2,g3,g4,g18,g19,hmr,s,h1,h2,h3,g20,h5,h6⟩
  dsimp only at e9 g0 g1 g2 g3 g4 g18 g19 g20 hmr
  subst e9
  obtain ⟨L1,L2,R1,R2,hLe,hRe,hl1,hr1,sl1,sl2,sr1,sr2,hmg⟩:∃L1 L2 R1 R2:PL,L=L1++L2∧R=R1++R2∧L1.length=s∧R1.length=M-s∧srt ltK L1∧srt ltK L2∧srt ltK R1∧srt ltK R2∧mg ltK L R=mg ltK L1 R1++mg ltK L2 R2:=by
   have q1:=srt_app.1 (show srt ltK (L.take s++L.drop s) by rw [List.take_append_drop];exact hsl)
   have q2:=srt_app.1 (show srt ltK (R.take (M-s)++R.drop (M-s)) by rw [List.take_append_drop];exact hsr)
   have q3:=mg_split (lt:=ltK (α:=List Nat×Bool)) woK _ (a1:=L.take s) (a2:=L.drop s) (b1:=R.take (M-s)) (b2:=R.drop (M-s)) (Nat.le_refl _) (by rw [List.take_append_drop];exact hsl) (by rw [List.take_append_drop];exact hsr) h5 (fun y hy x hx=>h6 x hx y hy)
   rw [List.take_append_drop,List.take_append_drop] at q3
   exact ⟨_,_,_,_,(List.take_append_drop _ _).symm,(List.take_append_drop _ _).symm,by rw [List.length_take];omega,by rw [List.length_take];omega,q1.1,q1.2.1,q2.1,q2.2.1,q3⟩
  have ll:L.length=s+L2.length:=by rw [hLe,List.length_append,hl1]
  have rl:R.length=M-s+R2.length:=by rw [hRe,List.length_append,hr1]
  have hml:(mg ltK L1 R1).length=M:=by rw [mg_len];omega
  have e24:((A.length+M+(A.length+L.length):Nat):Int)-((A.length+s:Nat):Int)=((A.length+L.length+(M-s):Nat):Int):=by omega
  refine RnK.left ?_
  refine RnK.cut (fun u=>u.d=[]∧u.t.get 0=some v∧u.t.get 1=some (.int .i64 (A.length:Nat))∧u.t.get 2=some (.int .i64 ((A.length+L.length:Nat):Int))∧u.t.get 3=some (.int .i64 ((A.length+L.length+R.length:Nat):Int))∧u.t.get 4=some fK∧u.t.get 18=some (.int .i64 ((A.length+M:Nat):Int))∧u.t.get 20=some (.int .i64 ((A.length+s:Nat):Int))∧u.t.get 24=some (.int .i64 ((A.length+L.length+(M-s):Nat):Int))∧Mr id v gg u.h (A++L1++R1++L2++R2++B)) (.sy ?_) ?_
  ·have q:(s<L.length∧s<M)∨(s<L.length∧¬s<M)∨¬s<L.length:=by omega
   rcases q with ⟨q1,q2⟩ | ⟨q1,q2⟩ | q1
   ·have d1:((A.length+s:Nat):Int)<((A.length+L.length:Nat):Int):=by omega
    have d2:((A.length+L.length:Nat):Int)<((A.length+L.length+(M-s):Nat):Int):=by omega
    simp -dsimp (disch:=(repeat first | rw [nxn] | rw [nxp]);try omega) only [go_sem,g0,g1,g2,g3,g4,g18,g19,g20,e24,d1,d2,ov,hf]
    refine callK_of (rotC hS (A:=A++L1) (U:=L2) (V:=R1) (B:=R2++B) (by have:=hmr.m;rw [hLe,hRe] at this;simpa only [List.append_assoc] using this) (by omega) (by omega) (by simp only [List.length_append];omega) hf (by simp only [List.length_append];omega) (by simp only [List.length_append];omega) (by simp only [List.length_append];omega)) ?_
    intro w g5 hr5
    have hmr5:Mr id v gg g5 (A++L1++R1++L2++R2++B):=hmr.trans (by simpa only [List.append_assoc] using hr5)
    try simp -dsimp (disch:=(repeat first | rw [nxn] | rw [nxp]);try omega) only [go_sem,g0,g1,g2,g3,g4,g18,g19,g20]
    exact ⟨trivial,trivial,trivial,trivial,trivial,trivial,trivial,trivial,trivial,trivial,hmr5⟩
   ·have d1:((A.length+s:Nat):Int)<((A.length+L.length:Nat):Int):=by omega
    have d2:¬((A.length+L.length:Nat):Int)<((A.length+L.length+(M-s):Nat):Int):=by omega
    have hz:R1=[]:=List.length_eq_zero_iff.1 (by omega)
    simp -dsimp (disch:=(repeat first | rw [nxn] | rw [nxp]);try omega) only [go_sem,g0,g1,g2,g3,g4,g18,g19,g20,e24,d1,d2]
    exact ⟨trivial,trivial,trivial,trivial,trivial,trivial,trivial,trivial,trivial,trivial,hmr.eqL (by rw [hLe,hRe,hz];simp)⟩
   ·have d1:¬((A.length+s:Nat):Int)<((A.length+L.length:Nat):Int):=by omega
    have hz:L2=[]:=List.length_eq_zero_iff.1 (by omega)
    simp -dsimp (disch:=(repeat first | rw [nxn] | rw [nxp]);try omega) only [go_sem,g0,g1,g2,g3,g4,g18,g19,g20,e24,d1]
    exact ⟨trivial,trivial,trivial,trivial,trivial,trivial,trivial,trivial,trivial,trivial,hmr.eqL (by rw [hLe,hRe,hz];simp)⟩
  clear g0 g1 g2 g3 g4 g18 g19 g20 hmr
  rintro ⟨tt,g,d⟩ ⟨e9,g0,g1,g2,g3,g4,g18,g20,g24,hmr5⟩
  dsimp only at e9 g0 g1 g2 g3 g4 g18 g20 g24 hmr5
  subst e9
  refine RnK.cut (fun u=>u.d=[]∧u.t.get 0=some v∧u.t.get 1=some (.int .i64 (A.length:Nat))∧u.t.get 2=some (.int .i64 ((A.length+L.length:Nat):Int))∧u.t.get 3=some (.int .i64 ((A.length+L.length+R.length:Nat):Int))∧u.t.get 4=some fK∧u.t.get 18=some (.int .i64 ((A.length+M:Nat):Int))∧u.t.get 20=some (.int .i64 ((A.length+s:Nat):Int))∧u.t.get 24=some (.int .i64 ((A.length+L.length+(M-s):Nat):Int))∧Mr id v gg u.h (A++mg ltK L1 R1++L2++R2++B)) (.sy ?_) ?_
  ·have q:(0<s∧s<M)∨(0<s∧¬s<M)∨¬0<s:=by omega
   rcases q with ⟨p1,p2⟩ | ⟨p1,p2⟩ | p1
   ·have d3:((A.length:Nat):Int)<((A.length+s:Nat):Int):=by omega
    have d4:((A.length+s:Nat):Int)<((A.length+M:Nat):Int):=by omega
    simp -dsimp (disch:=(repeat first | rw [nxn] | rw [nxp]);try omega) only [go_sem,g0,g1,g2,g3,g4,g18,g20,g24,d3,d4,ov,hf]
    refine callK_of (ih (A:=A) (L:=L1) (R:=R1) (B:=L2++R2++B) (by omega) (by simpa only [List.append_assoc] using hmr5.m) (by simp only [List.length_append];omega) sl1 sr1 (by omega) (by omega) rfl (by omega) (by omega)) ?_
    intro w2 g6 hr6
    have hmr6:Mr id v gg g6 (A++mg ltK L1 R1++L2++R2++B):=hmr5.trans (by simpa only [List.append_assoc] using hr6)
    try simp -dsimp (disch:=(repeat first | rw [nxn] | rw [nxp]);try omega) only [go_sem,g0,g1,g2,g3,g4,g18,g20,g24]
    exact ⟨trivial,trivial,trivial,trivial,trivial,trivial,trivial,trivial,trivial,trivial,hmr6⟩
   ·have d3:((A.length:Nat):Int)<((A.length+s:Nat):Int):=by omega
    have d4:¬((A.length+s:Nat):Int)<((A.length+M:Nat):Int):=by omega
    have hz:R1=[]:=List.length_eq_zero_iff.1 (by omega)
    simp -dsimp (disch:=(repeat first | rw [nxn] | rw [nxp]);try omega) only [go_sem,g0,g1,g2,g3,g4,g18,g20,g24,d3,d4]
    exact ⟨trivial,trivial,trivial,trivial,trivial,trivial,trivial,trivial,trivial,trivial,hmr5.eqL (by rw [hz,mg_nil];simp)⟩
   ·have d3:¬((A.length:Nat):Int)<((A.length+s:Nat):Int):=by omega
    have hz:L1=[]:=List.length_eq_zero_iff.1 (by omega)
    simp -dsimp (disch:=(repeat first | rw [nxn] | rw [nxp]);try omega) only [go_sem,g0,g1,g2,g3,g4,g18,g20,g24,d3]
    exact ⟨trivial,trivial,trivial,trivial,trivial,trivial,trivial,trivial,trivial,trivial,hmr5.eqL (by rw [hz,mg];simp)⟩
  clear g0 g1 g2 g3 g4 g18 g20 g24 hmr5
  rintro ⟨tt,g,d⟩ ⟨e9,g0,g1,g2,g3,g4,g18,g20,g24,hmr6⟩
  dsimp only at e9 g0 g1 g2 g3 g4 g18 g20 g24 hmr6
  subst e9
  refine .sy ?_
  have q:(s<L.length∧0<R2.length)∨(s<L.length∧¬0<R2.length)∨¬s<L.length:=by omega
  rcases q with ⟨p3,p4⟩ | ⟨p3,p4⟩ | p3
  ·have d5:((A.length+M:Nat):Int)<((A.length+L.length+(M-s):Nat):Int):=by omega
   have d6:((A.length+L.length+(M-s):Nat):Int)<((A.length+L.length+R.length:Nat):Int):=by omega
   simp -dsimp (disch:=(repeat first | rw [nxn] | rw [nxp]);try omega) only [go_sem,g0,g1,g2,g3,g4,g18,g20,g24,d5,d6,ov,hf]
   refine callK_of (ih (A:=A++mg ltK L1 R1) (L:=L2) (R:=R2) (B:=B) (by omega) (by simpa only [List.append_assoc] using hmr6.m) (by simp only [List.length_append];omega) sl2 sr2 (by omega) (by omega) (by simp only [List.length_append];omega) (by simp only [List.length_append];omega) (by simp only [List.length_append];omega)) ?_
   intro w3 g7 hr7
   try simp -dsimp (disch:=(repeat first | rw [nxn] | rw [nxp]);try omega) only [go_sem]
   rw [hmg]
   exact hmr6.trans (by simpa only [List.append_assoc] using hr7)
  ·have d5:((A.length+M:Nat):Int)<((A.length+L.length+(M-s):Nat):Int):=by omega
   have d6:¬((A.length+L.length+(M-s):Nat):Int)<((A.length+L.length+R.length:Nat):Int):=by omega
   have hz2:R2=[]:=List.length_eq_zero_iff.1 (by omega)
   simp -dsimp (disch:=(repeat first | rw [nxn] | rw [nxp]);try omega) only [go_sem,g0,g1,g2,g3,g4,g18,g20,g24,d5,d6]
   exact hmr6.eqL (by rw [hmg,hz2,mg_nil];simp)
  ·have d5:¬((A.length+M:Nat):Int)<((A.length+L.length+(M-s):Nat):Int):=by omega
   have hz2:L2=[]:=List.length_eq_zero_iff.1 (by omega)
   have hz3:mg ltK L2 R2=R2:=by rw [hz2,mg]
   simp -dsimp (disch:=(repeat first | rw [nxn] | rw [nxp]);try omega) only [go_sem,g0,g1,g2,g3,g4,g18,g20,g24,d5]
   exact hmr6.eqL (by rw [hmg,hz3,hz2];simp)
end
inductive Fl (w:Nat):PL→PL→Prop
 | last {D:PL}:D.length≤w→Fl w D (isort ltK D)
 | more {D L:PL}:w≤D.length→Fl w (D.drop w) L→Fl w D (isort ltK (D.take w)++L)
theorem Fl.short {w:Nat} {D T:PL} (hf:Fl w D T) (hw:0<w) (hl:D.length≤w):T=isort ltK D:=by
 cases hf with
 | last _=>rfl
 | more h1 h2 =>
  have e:D.drop w=[]:=List.drop_eq_nil_of_le hl
  rw [e] at h2
  rw [List.take_of_length_le hl]
  cases h2 with
  | last _=>simp [isort]
  | more h3 _=>simp at h3;omega
theorem Fl.cut {w:Nat} {D T:PL} (hf:Fl w D T) (hw:0<w) (hl:w≤D.length):∃T1,T=isort ltK (D.take w)++T1∧Fl w (D.drop w) T1:=by
 cases hf with
 | last h1 =>
  refine ⟨[],by rw [List.take_of_length_le h1,List.append_nil],?_⟩
  rw [List.drop_eq_nil_of_le h1]
  exact Fl.last (D:=[]) (by simp)
 | more h1 h2=>exact ⟨_,rfl,h2⟩
theorem Fl.len {w:Nat} {D T:PL} (hf:Fl w D T):T.length=D.length:=by
 induction hf with
 | last _=>rw [isort_len]
 | more h1 h2 ih=>rw [List.length_append,isort_len,ih,List.length_take,List.length_drop];omega
theorem take_cat {D:PL} {w:Nat} (h:2*w≤D.length):D.take w++(D.drop w).take w=D.take (2*w):=by
 rw [show 2*w=w+w by omega,List.take_add]
section
variable {S : Sums}
theorem stabC (hS:Ts S) {h:AH} {id:Nat} {v:AV} {D:PL} (hm:Mt id v h D) (hb:D.length≤100000) {n:Nat} (hn:n=D.length) :
  RnC Tryz.prog S 124 [v,.int .i64 (n:Nat),fK] h fun r h'=>Mr id v h h' (isort ltK D):=by
 refine RnC.enter' Tryz.f124 _ 63 [] (hS.ns _ _ _ (by simp)) bd124 Tryz.func124 rfl rfl rfl ?_
 have ov:oneA v=true:=by obtain ⟨⟨c,hv,_⟩,_⟩:=hm;rw [hv];rfl
 have hf:oneA fK=true:=rfl
 simp -dsimp (disch:=(repeat first | rw [nxn] | rw [nxp]);try omega) only [go_sem,ov]
 refine loopK_of (RnL.rounds (Q:=fun ex u=>ex=.exit 0∧u.d=[]∧u.t.get 0=some v∧u.t.get 1=some (.int .i64 (n:Nat))∧u.t.get 2=some fK∧u.t.get 6=some (.int .i64 20)∧∃(a:Nat) (P:PL),u.t.get 7=some (.int .i64 (a:Nat))∧a≤n∧n<a+20∧P.length=a∧(∀L,Fl 20 (D.drop a) L→Fl 20 D (P++L))∧Mr id v h u.h (P++D.drop a))
  (fun m u=>u.d=[]∧u.t.get 0=some v∧u.t.get 1=some (.int .i64 (n:Nat))∧u.t.get 2=some fK∧u.t.get 6=some (.int .i64 20)∧∃(a:Nat) (P:PL),u.t.get 7=some (.int .i64 (a:Nat))∧u.t.get 8=some (.int .i64 ((a+20:Nat):Int))∧a≤n∧P.length=a∧(∀L,Fl 20 (D.drop a) L→Fl 20 D (P++L))∧Mr id v h u.h (P++D.drop a)∧m=n-a) ?_ n ?_) ?_
 ·rintro m ⟨tt,g,d⟩ ⟨e9,g0,g1,g2,g6,a,P,g7,g8,ha,hP,hfl,hmr,rfl⟩
  dsimp only at e9 g0 g1 g2 g6 g7 g8 hmr
  subst e9
  by_cases c1:a+20≤n
  ·have c2:((a+20:Nat):Int)≤((n:Nat):Int):=by omega
   have hdl:(D.drop a).length=n-a:=by rw [List.length_drop];omega
   have hd:D.drop a=(D.drop a).take 20++D.drop (a+20):=by rw [←List.drop_drop,List.take_append_drop]
   simp -dsimp (disch:=(repeat first | rw [nxn] | rw [nxp]);try omega) only [go_sem,c2,g0,g1,g2,g6,g7,g8,ov,hf]
   refine callK_of (insC hS (A:=P) (Q:=(D.drop a).take 20) (B:=D.drop (a+20)) (by have:=hmr.m;rw [hd] at this;simpa only [List.append_assoc] using this) (by rw [List.append_assoc,←hd,List.length_append];omega) hP.symm (by rw [List.length_take];omega)) ?_
   intro w g5 hr
   have e20:((a+20:Nat):Int)+20=((a+20+20:Nat):Int):=by omega
   simp -dsimp (disch:=(repeat first | rw [nxn] | rw [nxp]);try omega) only [go_sem,g0,g1,g2,g6,g7,g8,e20]
   refine ⟨n-(a+20),by omega,trivial,trivial,trivial,trivial,trivial,a+20,P++isort ltK ((D.drop a).take 20),rfl,rfl,by omega,by rw [List.length_append,isort_len,List.length_take];omega,fun L hL=>?_,hmr.trans (hr.eqL (by simp)),rfl⟩
   rw [List.append_assoc]
   exact hfl _ (Fl.more (by omega) (by rw [List.drop_drop];exact hL))
  ·have c2:¬((a+20:Nat):Int)≤((n:Nat):Int):=by omega
   simp -dsimp (disch:=(repeat first | rw [nxn] | rw [nxp]);try omega) only [go_sem,c2,g0,g1,g2,g6,g7,g8]
   exact ⟨trivial,trivial,trivial,trivial,trivial,trivial,a,P,rfl,ha,by omega,hP,hfl,hmr⟩
 ·simp -dsimp (disch:=(repeat first | rw [nxn] | rw [nxp]);try omega) only [go_sem]
  exact ⟨trivial,trivial,trivial,trivial,trivial,0,[],rfl,rfl,Nat.zero_le _,rfl,fun L hL=>hL,Mr.refl hm,rfl⟩
 ·rintro ex ⟨tt,g,d⟩ ⟨rfl,rfl,g0,g1,g2,g6,a,P,g7,ha,hn20,hP,hfl,hmr⟩
  dsimp only at g0 g1 g2 g6 g7 hmr
  have hdl:(D.drop a).length=n-a:=by rw [List.length_drop];omega
  simp -dsimp (disch:=(repeat first | rw [nxn] | rw [nxp]);try omega) only [go_sem,g0,g1,g2,g6,g7,ov,hf]
  refine callK_of (insC hS (A:=P) (Q:=D.drop a) (B:=[]) (by simpa only [List.append_nil] using hmr.m) (by rw [List.append_nil,List.length_append];omega) hP.symm (by omega)) ?_
  intro w g5 hr
  have hmr5:Mr id v h g5 (P++isort ltK (D.drop a)):=hmr.trans (by simpa only [List.append_nil] using hr)
  have hF:=hfl _ (Fl.last (w:=20) (D:=D.drop a) (by omega))
  generalize P++isort ltK (D.drop a)=T0 at hF hmr5
  clear hr hfl hmr
  try simp -dsimp (disch:=(repeat first | rw [nxn] | rw [nxp]);try omega) only [go_sem,g0,g1,g2,g6,g7]
  refine loopK_of (RnL.rounds (Q:=fun ex u=>ex=.exit 2∧u.d=[]∧Mr id v h u.h (isort ltK D))
   (fun m u=>u.d=[]∧u.t.get 0=some v∧u.t.get 1=some (.int .i64 (n:Nat))∧u.t.get 2=some fK∧∃(w:Nat) (T:PL),u.t.get 6=some (.int .i64 (w:Nat))∧0<w∧w≤20+2*n∧Fl w D T∧Mr id v h u.h T∧m=n-w) ?_ (n-20) ?_) ?_
  ·rintro m ⟨tt2,g',d2⟩ ⟨e9,g0,g1,g2,w,T,g6,hw,hw2,hT,hmr,rfl⟩
   dsimp only at e9 g0 g1 g2 g6 hmr
   subst e9
   by_cases c1:w<n
   ·have c2:((w:Nat):Int)<((n:Nat):Int):=by omega
    have e2:(2:Int)*((w:Nat):Int)=((2*w:Nat):Int):=by omega
    simp -dsimp (disch:=(repeat first | rw [nxn] | rw [nxp]);try omega) only [go_sem,c2,g0,g1,g2,g6,e2]
    refine loopK_of (RnL.rounds (Q:=fun ex u=>ex=.exit 4∧u.d=[]∧u.t.get 0=some v∧u.t.get 1=some (.int .i64 (n:Nat))∧u.t.get 2=some fK∧u.t.get 6=some (.int .i64 (w:Nat))∧∃(a:Nat) (P T:PL),u.t.get 7=some (.int .i64 (a:Nat))∧a≤n∧n<a+2*w∧P.length=a∧(∀L,Fl (2*w) (D.drop a) L→Fl (2*w) D (P++L))∧Fl w (D.drop a) T∧Mr id v h u.h (P++T))
     (fun m u=>u.d=[]∧u.t.get 0=some v∧u.t.get 1=some (.int .i64 (n:Nat))∧u.t.get 2=some fK∧u.t.get 6=some (.int .i64 (w:Nat))∧∃(a:Nat) (P T:PL),u.t.get 7=some (.int .i64 (a:Nat))∧u.t.get 8=some (.int .i64 ((a+2*w:Nat):Int))∧a≤n∧P.length=a∧(∀L,Fl (2*w) (D.drop a) L→Fl (2*w) D (P++L))∧Fl w (D.drop a) T∧Mr id v h u.h (P++T)∧m=n-a) ?_ n ?_) ?_
    ·rintro m ⟨tt3,g7',d3⟩ ⟨e9,g0,g1,g2,g6,a,P,T1,g7,g8,ha,hP,hfl,hT1,hmr,rfl⟩
     dsimp only at e9 g0 g1 g2 g6 g7 g8 hmr
     subst e9
     by_cases c3:a+2*w≤n
     ·have c4:((a+2*w:Nat):Int)≤((n:Nat):Int):=by omega
      have hdl:(D.drop a).length=n-a:=by rw [List.length_drop];omega
      obtain ⟨T2,rfl,hT2⟩:=hT1.cut hw (by omega)
      obtain ⟨T3,rfl,hT3⟩:=hT2.cut hw (by rw [List.length_drop];omega)
      have l1:(isort ltK ((D.drop a).take w)).length=w:=by rw [isort_len,List.length_take];omega
      have l2:(isort ltK (((D.drop a).drop w).take w)).length=w:=by rw [isort_len,List.length_take,List.length_drop];omega
      have e3:((a:Nat):Int)+((w:Nat):Int)=((a+w:Nat):Int):=by omega
      have e4:((a+2*w:Nat):Int)+((2*w:Nat):Int)=((a+2*w+2*w:Nat):Int):=by omega
      have hb3:(P++isort ltK ((D.drop a).take w)++isort ltK (((D.drop a).drop w).take w)++T3).length≤1000000:=by
       have q3:=hT3.len
       simp only [List.length_append,List.length_drop] at q3 ⊢
       omega
      simp -dsimp (disch:=(repeat first | rw [nxn] | rw [nxp]);try omega) only [go_sem,c4,g0,g1,g2,g6,g7,g8,ov,hf,e3]
      refine callK_of (symC hS _ (A:=P) (L:=isort ltK ((D.drop a).take w)) (R:=isort ltK (((D.drop a).drop w).take w)) (B:=T3) (Nat.le_refl _) (by simpa only [List.append_assoc] using hmr.m) hb3 (srt_isort woK _) (srt_isort woK _) (by omega) (by omega) hP.symm (by omega) (by omega)) ?_
      intro w5 g5 hr
      rw [isort_mg woK,take_cat (by omega)] at hr
      simp -dsimp (disch:=(repeat first | rw [nxn] | rw [nxp]);try omega) only [go_sem,g0,g1,g2,g6,g7,g8,e2,e4]
      refine ⟨n-(a+2*w),by omega,trivial,trivial,trivial,trivial,trivial,a+2*w,P++isort ltK ((D.drop a).take (2*w)),T3,rfl,rfl,by omega,by rw [List.length_append,isort_len,List.length_take];omega,fun L hL=>?_,?_,hmr.trans (by simpa only [List.append_assoc] using hr),rfl⟩
      ·rw [List.append_assoc]
       exact hfl _ (Fl.more (by omega) (by rw [List.drop_drop];exact hL))
      ·rw [List.drop_drop,List.drop_drop,show a+(w+w)=a+2*w by omega] at hT3
       exact hT3
     ·have c4:¬((a+2*w:Nat):Int)≤((n:Nat):Int):=by omega
      simp -dsimp (disch:=(repeat first | rw [nxn] | rw [nxp]);try omega) only [go_sem,c4,g0,g1,g2,g6,g7,g8]
      exact ⟨trivial,trivial,trivial,trivial,trivial,trivial,a,P,T1,rfl,ha,by omega,hP,hfl,hT1,hmr⟩
    ·simp -dsimp (disch:=(repeat first | rw [nxn] | rw [nxp]);try omega) only [go_sem]
     exact ⟨trivial,g0,g1,g2,g6,0,[],T,rfl,by simp,Nat.zero_le _,rfl,fun L hL=>hL,hT,hmr,rfl⟩
    ·rintro ex ⟨tt3,g7',d3⟩ ⟨rfl,rfl,g0,g1,g2,g6,a,P,T1,g7,ha,hn2,hP,hfl,hT1,hmr⟩
     dsimp only at g0 g1 g2 g6 g7 hmr
     have hdl:(D.drop a).length=n-a:=by rw [List.length_drop];omega
     have e3:((a:Nat):Int)+((w:Nat):Int)=((a+w:Nat):Int):=by omega
     have e5:((w:Nat):Int)*2=((2*w:Nat):Int):=by omega
     have hlast:=hfl _ (Fl.last (w:=2*w) (D:=D.drop a) (by omega))
     by_cases c3:a+w<n
     ·have c4:((a+w:Nat):Int)<((n:Nat):Int):=by omega
      obtain ⟨T2,rfl,hT2⟩:=hT1.cut hw (by omega)
      have hd2:((D.drop a).drop w).length=n-a-w:=by rw [List.length_drop];omega
      obtain rfl:=hT2.short hw (by omega)
      have l1:(isort ltK ((D.drop a).take w)).length=w:=by rw [isort_len,List.length_take];omega
      have l2:(isort ltK ((D.drop a).drop w)).length=n-a-w:=by rw [isort_len];exact hd2
      simp -dsimp (disch:=(repeat first | rw [nxn] | rw [nxp]);try omega) only [go_sem,g0,g1,g2,g6,g7,ov,hf,e3,c4]
      refine callK_of (symC hS _ (A:=P) (L:=isort ltK ((D.drop a).take w)) (R:=isort ltK ((D.drop a).drop w)) (B:=[]) (Nat.le_refl _) (by simpa only [List.append_assoc,List.append_nil] using hmr.m) (by simp only [List.length_append,List.length_nil];omega) (srt_isort woK _) (srt_isort woK _) (by omega) (by omega) hP.symm (by omega) (by omega)) ?_
      intro w5 g5 hr
      rw [isort_mg woK,List.take_append_drop,List.append_nil] at hr
      simp -dsimp (disch:=(repeat first | rw [nxn] | rw [nxp]);try omega) only [go_sem,g0,g1,g2,g6,g7,e5]
      exact ⟨n-2*w,by omega,trivial,trivial,trivial,trivial,2*w,_,rfl,by omega,by omega,hlast,hmr.trans hr,rfl⟩
     ·have c4:¬((a+w:Nat):Int)<((n:Nat):Int):=by omega
      obtain rfl:=hT1.short hw (by omega)
      simp -dsimp (disch:=(repeat first | rw [nxn] | rw [nxp]);try omega) only [go_sem,g0,g1,g2,g6,g7,e3,c4,e5]
      exact ⟨n-2*w,by omega,trivial,trivial,trivial,trivial,2*w,_,rfl,by omega,by omega,hlast,hmr,rfl⟩
   ·have c2:¬((w:Nat):Int)<((n:Nat):Int):=by omega
    simp -dsimp (disch:=(repeat first | rw [nxn] | rw [nxp]);try omega) only [go_sem,c2,g0,g1,g2,g6]
    exact ⟨trivial,trivial,hmr.eqL (hT.short hw (by omega))⟩
  ·simp -dsimp (disch:=(repeat first | rw [nxn] | rw [nxp]);try omega) only [go_sem]
   exact ⟨trivial,g0,g1,g2,20,T0,g6,by omega,by omega,hF,hmr5,rfl⟩
  ·rintro ex ⟨tt2,g',d2⟩ ⟨rfl,rfl,hmr⟩
   dsimp only at hmr
   simp -dsimp (disch:=(repeat first | rw [nxn] | rw [nxp]);try omega) only [go_sem]
   exact hmr
end
theorem nf {X Y Z:PL} {u w:Pr} {l:PL} (hl:l=X++u::Y++w::Z) {p q:Nat} (hp:p=X.length) (hq:q=X.length+1+Y.length) :
  ((l.flatMap pc).drop (p*3)).take 3=[.str u.1,.str u.2.1,.bool u.2.2]∧((l.flatMap pc).drop (q*3)).take 3=[.str w.1,.str w.2.1,.bool w.2.2]∧p*3+3≤(l.flatMap pc).length∧q*3+3≤(l.flatMap pc).length∧p<l.length∧q<l.length∧(X++w::Y++u::Z).length=l.length ∧
  ((l.flatMap pc).take (p*3)++[.str w.1,.str w.2.1,.bool w.2.2]++(l.flatMap pc).drop (p*3+3)=(l.set p w).flatMap pc∧((l.set p w).flatMap pc).take (q*3)++[.str u.1,.str u.2.1,.bool u.2.2]++((l.set p w).flatMap pc).drop (q*3+3)=(X++w::Y++u::Z).flatMap pc∧q*3+3≤((l.set p w).flatMap pc).length):=by
 have hlen:l.length=X.length+Y.length+Z.length+2:=by rw [hl];simp;omega
 have g1:l[p]? = some u:=by rw [hl,hp];simp
 have g2:l[q]? = some w:=by
  have:q=(X++u::Y).length:=by rw [hq];simp;omega
  rw [hl,this];exact get_mid
 have s1:(l.set p w).set q u=X++w::Y++u::Z:=by rw [hl,hp,hq];exact swap_mid
 refine ⟨pcAt g1,pcAt g2,pcLe (by omega),pcLe (by omega),by omega,by omega,by rw [hl];simp,pcSet w (by omega),?_,pcLe (by rw [List.length_set];omega)⟩
 rw [←s1];exact pcSet (l:=l.set p w) u (by rw [List.length_set];omega)
theorem eqNs (h:AH) (id o n z:Nat) (c:Option Nat):binA Tryz.prog h .eql 22 (.sl id o n z c) .nilsl=some (.bool false):=by kernel_rfl
theorem eqN0 (h:AH):binA Tryz.prog h .eql 22 .nilsl .nilsl=some (.bool true):=by kernel_rfl
section
variable {S : Sums}
theorem sortC (hS:Ts S) {h:AH} {id:Nat} {v:AV} {D:PL} (hm:Mt id v h D) (hb:D.length≤100000) :
  RnC Tryz.prog S 76 [v,fK] h fun r h'=>Mr id v h h' (isort ltK D):=by
 refine RnC.enter' Tryz.f76 _ 9 [] (hS.ns _ _ _ (by simp)) bd76 Tryz.func76 rfl rfl rfl ?_
 obtain ⟨lv,sv,ov⟩:=hm.ps.ln
 have hf:oneA fK=true:=rfl
 simp -dsimp (disch:=(repeat first | rw [nxn] | rw [nxp]);try omega) only [go_sem,ov,lv,hf]
 refine callK_of (stabC hS hm hb rfl) ?_
 intro w g hr
 try simp -dsimp (disch:=(repeat first | rw [nxn] | rw [nxp]);try omega) only [go_sem]
 exact hr
theorem revC (hS:Ts S) {h:AH} {id:Nat} {v:AV} {D:PL} (hm:Mt id v h D) (hD:0<D.length) (hb:D.length≤100000) :
  RnC Tryz.prog S 75 [v] h fun r h'=>Mr id v h h' D.reverse:=by
 refine RnC.enter' Tryz.f75 _ 28 [] (hS.ns _ _ _ (by simp)) bd75 Tryz.func75 rfl rfl rfl ?_
 obtain ⟨lv,sv,ov⟩:=hm.ps.ln
 have e1:((D.length:Nat):Int)-1=((D.length-1:Nat):Int):=by omega
 simp -dsimp (disch:=(repeat first | rw [nxn] | rw [nxp]);try omega) only [go_sem,ov,lv,e1]
 refine loopK_of (RnL.rounds (Q:=fun ex u=>ex=.exit 0∧u.d=[]∧Mr id v h u.h D.reverse)
  (fun m u=>u.d=[]∧u.t.get 0=some v∧∃(i:Nat) (P M Q:PL),u.t.get 2=some (.int .i64 (i:Nat))∧u.t.get 3=some (.int .i64 ((D.length-1-i:Nat):Int))∧P.length=i∧Q.length=i∧D=P++M++Q∧Mr id v h u.h (Q.reverse++M++P.reverse)∧i<D.length∧m=M.length) ?_ D.length ?_) ?_
 ·rintro m ⟨tt,g,d⟩ ⟨e9,g0,i,P,M,Q,g2,g3,hP,hQ,hD2,hmr,hi,rfl⟩
  dsimp only at e9 g0 g2 g3 hmr
  subst e9
  have hll:D.length=i+M.length+i:=by rw [hD2];simp only [List.length_append];omega
  by_cases c1:i<D.length-1-i
  ·have c2:((i:Nat):Int)<((D.length-1-i:Nat):Int):=by omega
   obtain ⟨x,M,rfl⟩:∃x M',M=x::M':=by
    cases M with
    | nil=>simp at hll;omega
    | cons x M=>exact ⟨x,M,rfl⟩
   rcases List.eq_nil_or_concat M with rfl | ⟨M,y,rfl⟩
   ·simp at hll;omega
   rw [List.concat_eq_append] at *
   simp only [List.length_cons,List.length_append,List.length_nil] at hll
   have e2:((i:Nat):Int)+1=((i+1:Nat):Int):=by omega
   have e3:((D.length-1-i:Nat):Int)-1=((D.length-1-(i+1):Nat):Int):=by omega
   have hmr2:Mr id v h g (Q.reverse++x::M++y::P.reverse):=hmr.eqL (by simp)
   obtain ⟨a1,a2,b1,b2,q1,q2,hl2,s1,s2,b3⟩:=nf (l:=Q.reverse++x::M++y::P.reverse) (p:=i) (q:=D.length-1-i) rfl (by rw [List.length_reverse,hQ]) (by rw [List.length_reverse,hQ];omega)
   generalize hlq:Q.reverse++x::M++y::P.reverse=l at hmr2 a1 a2 b1 b2 q1 q2 hl2 s1 s2 b3
   clear hmr
   have hmr3:=hmr2
   obtain ⟨nx1,ot1,⟨⟨c',hv',hc'⟩,hg1,hlt1⟩⟩:=hmr2
   have hv2:=hv'
   rw [hv'] at g0
   simp -dsimp (disch:=(repeat first | rw [nxn] | rw [nxp]);try omega) only [go_sem,c2,g0,g2,g3]
   refine syDraw.keepN 0 (fun _=>True) (by kernel_rfl) (by kernel_rfl) rfl ?_
   simp -dsimp (disch:=(repeat first | rw [nxn] | rw [nxp]);try omega) only [go_sem,g0,g2,g3,q1,q2,hg1,a1,a2,b1,b2,b3,s1,s2,e2,e3]
   exact ⟨M.length,by simp only [List.length_cons,List.length_append,List.length_nil];omega,trivial,hv2.symm,i+1,P++[x],M,y::Q,rfl,rfl,by simp [hP],by simp [hQ],by rw [hD2];simp,(hmr3.put2 hl2 (by omega)).eqL (by simp),by omega,rfl⟩
  ·have c2:¬((i:Nat):Int)<((D.length-1-i:Nat):Int):=by omega
   simp -dsimp (disch:=(repeat first | rw [nxn] | rw [nxp]);try omega) only [go_sem,c2,g0,g2,g3]
   refine ⟨trivial,trivial,hmr.eqL ?_⟩
   rw [hD2]
   have:M.reverse=M:=by
    match M,(show M.length≤1 by omega) with
    | [],_=>rfl
    | [x],_=>rfl
   simp [this]
 ·simp -dsimp (disch:=(repeat first | rw [nxn] | rw [nxp]);try omega) only [go_sem]
  exact ⟨trivial,trivial,0,[],D,[],rfl,rfl,rfl,rfl,by simp,(Mr.refl hm).eqL (by simp),hD,rfl⟩
 ·rintro ex ⟨tt,g,d⟩ ⟨rfl,rfl,hmr⟩
  dsimp only at hmr
  simp -dsimp (disch:=(repeat first | rw [nxn] | rw [nxp]);try omega) only [go_sem]
  exact hmr
theorem cloneC (hS:Ts S) {h:AH} {v:AV} {l:PL} (hv:Ps h v l) (hl:l.length≤100000) :
  RnC Tryz.prog S 74 [v] h fun r h'=>Fr h h'∧Ez 3 h.nx h' r (l.flatMap pc):=by
 refine RnC.enter' Tryz.f74 _ 8 [.tmp 2] (hS.ns _ _ _ (by simp)) bd74 Tryz.func74 rfl rfl rfl ?_
 obtain ⟨v',h',ha,hf',hz',ov'⟩:=appP (h0:=h) (h:=h.new (.cells [] true true)) (m:=l) (ez0 h) (hv.fr (Fr.new h _)) (Fr.new h _) (by simp;omega)
 have ov:=hv.ln.2.2
 have sh:v'=.nilsl∨∃id n c,v'=.sl id 0 n 3 c:=by
  rcases hz' with ⟨h1,_⟩ | ⟨id',n',c',tx',h1,_⟩
  ·exact .inl h1
  ·exact .inr ⟨id',n',c',h1⟩
 rcases hv with ⟨rfl,rfl⟩ | ⟨id,off,c,cs,o,tx,rfl,h2,h3,h4,h5,h6⟩
 ·simp -dsimp (disch:=(repeat first | rw [nxn] | rw [nxp]);try omega) only [go_sem,b0e,eqN0]
  exact ⟨Fr.refl _,.inl ⟨rfl,rfl⟩⟩
 ·rcases sh with rfl | ⟨i5,n5,c5,rfl⟩
  all_goals
   simp -dsimp (disch:=(repeat first | rw [nxn] | rw [nxp]);try omega) only [go_sem,eqNs,ov,ha]
   exact ⟨hf',hz'⟩
end
def lkA (x:Pr):PL→List Nat
 | []=>x.1
 | y::r=>lkA y r
theorem lkA_eq {x y:Pr} (h:x.1=y.1):∀r:PL,lkA x r=lkA y r
 | []=>h
 | _::_=>rfl
theorem cptA_snoc (w:Pr):∀(r:PL) (x:Pr),cptA x (r++[w])=if lkA x r=w.1 then cptA x r else cptA x r++[w]
 | [],x=>by
  show cptA x [w]=_
  rw [cptA_cons]
  show (if x.1=w.1 then cptA x [] else x::cptA w [])=if x.1=w.1 then cptA x [] else cptA x []++[w]
  rfl
 | y::r,x=>by
  rw [List.cons_append,cptA_cons,cptA_cons]
  show _=if lkA y r=w.1 then _ else _
  by_cases h:x.1=y.1
  ·rw [if_pos h,if_pos h,cptA_snoc w r x,lkA_eq h]
  ·rw [if_neg h,if_neg h,cptA_snoc w r y]
   split <;> rfl
theorem lkA_last:∀(r:PL) (x z:Pr),(x::r).getLast? = some z→lkA x r=z.1
 | [],x,z,h=>by simp at h;rw [←h];rfl
 | y::r,x,z,h=>by
  rw [List.getLast?_cons_cons] at h
  exact lkA_last r y z h
theorem cpt_take {D:PL} {m:Nat} {z w:Pr} (hm:0<m) (hz:D[m-1]? = some z) (hw:D[m]? = some w):cpt (D.take (m+1))=if w.1=z.1 then cpt (D.take m) else cpt (D.take m)++[w]:=by
 have tw:D.take (m+1)=D.take m++[w]:=by rw [List.take_add_one,hw];rfl
 have hml:m<D.length:=(List.getElem?_eq_some_iff.1 hw).1
 have tz:(D.take m).getLast? = some z:=by
  rw [List.getLast?_eq_getElem?,List.length_take,List.getElem?_take_of_lt (by omega),show min m D.length-1=m-1 by omega];exact hz
 rw [tw]
 cases hd:D.take m with
 | nil =>
  have:=congrArg List.length hd
  simp at this
  rcases this with h | h
  ·omega
  ·rw [h] at hml;simp at hml
 | cons x r =>
  rw [hd] at tz
  have h1:=cptA_snoc w r x
  rw [lkA_last r x z tz] at h1
  show cptA x (r++[w])=if w.1=z.1 then cptA x r else cptA x r++[w]
  rw [h1]
  by_cases h:z.1=w.1
  ·rw [if_pos h,if_pos h.symm]
  ·rw [if_neg h,if_neg (fun hh=>h hh.symm)]
theorem set_tail {C J R:PL} {z w:Pr}:(C++J++z::R).set C.length w=(C++[w])++(J++[z]).tail++R:=by
 rw [List.append_assoc,List.set_append_right _ _ (Nat.le_refl _),Nat.sub_self]
 cases J with
 | nil=>simp
 | cons y J=>simp
theorem Mr.put1 {id:Nat} {v:AV} {h g:AH} {l l2:PL} {n:Nat} (hm:Mr id v h g l) (hl:l2.length=l.length) (hn:g.nx≤n) :
  Mr id v h (({ tr:=g.tr,nx:=n }:AH).put id (.cells (l2.flatMap pc) true false)) l2:=by
 obtain ⟨n1,o1,⟨c,hv,hc⟩,hg,hlt⟩:=hm
 exact ⟨Nat.le_trans n1 hn,fun j hj hne=>(AH.get_put_ne hne).trans (o1 j hj hne),⟨c,by rw [hl];exact hv,by rw [hl];exact hc⟩,AH.get_put_eq rfl,Nat.lt_of_lt_of_le hlt hn⟩
theorem slK (h:AH) (id:Nat) {n k:Nat} {c:Option Nat} (hk:k≤n):evSlice Tryz.prog h 22 (.sl id 0 n 3 c) (some (.int .i64 ((k:Nat):Int))) none none=some (.sl id (k*3) (n-k) 3 (c.map (· - k))):=by
 have hu:upTo ((k:Nat):Int) n=some k:=by rw [upTo_of (by omega) (by omega)];simp
 simp [evSlice,Tryz.underlying22,tz58,boundsA,boundA,hu]
theorem slT (h:AH) (id:Nat) {n k:Nat} {c:Option Nat} (hk:k≤n) (hc:c=none∨c=some n):evSlice Tryz.prog h 22 (.sl id 0 n 3 c) none (some (.int .i64 ((k:Nat):Int))) none=some (.sl id 0 k 3 (c.map (· - 0))):=by
 have hu:upTo ((k:Nat):Int) (c.getD n)=some k:=by
  rw [upTo_of (by omega) (by rcases hc with rfl | rfl <;> simp <;> omega)];simp
 simp [evSlice,Tryz.underlying22,tz58,boundsA,boundA,hu]
theorem clrP {h:AH} {id off n:Nat} {c:Option Nat} {cs:List AV} {tx:Bool} (hg:h.get id=some (.cells cs true tx)) (hn:n≠0) (hl:off+n*3≤cs.length) :
  evClear Tryz.prog h #[22] (.sl id off n 3 c)=some (.val (.tup []) (h.put id (.cells (putCells cs off (repCells [.str [],.str [],.bool false] n)) true tx))):=by
 have hz:=zc58
 unfold zeroC at hz
 cases hz2:tzero Tryz.prog 58 with
 | none=>rw [hz2] at hz;cases hz
 | some z =>
  rw [hz2,Option.bind_some] at hz
  simp only [evClear,Tryz.underlying22,hz2,hz,hg,if_neg hn,Option.bind_eq_bind,Option.bind_some,List.getElem?_toArray,List.getElem?_cons_zero]
  rw [if_pos (by simp [oneA,hl])]
theorem psHead {g:AH} {id:Nat} {c:Option Nat} {C T:PL} {X Y:List AV} (hid:id<g.nx) (hc:∀q,c=some q→C.length≤q) :
  Ps (g.put id (.cells (((C++T).flatMap pc).take (C.length*3)++X++Y) true false)) (.sl id 0 C.length 3 c) C:=by
 have e:((C++T).flatMap pc).take (C.length*3)=C.flatMap pc:=by
  rw [List.flatMap_append,←pc_len,List.take_append_of_le_length (Nat.le_refl _),List.take_length]
 rw [e]
 refine .inr ⟨id,0,c,_,true,false,rfl,AH.get_put_eq rfl,hid,hc,?_,?_⟩
 ·simp only [List.length_append,pc_len];omega
 ·rw [List.drop_zero,List.append_assoc,←pc_len,List.take_append_of_le_length (Nat.le_refl _),List.take_length]
section
variable {S : Sums}
theorem compC (hS:Ts S) {h:AH} {id:Nat} {v:AV} {D:PL} (hm:Mt id v h D) (hb:D.length≤100000) :
  RnC Tryz.prog S 79 [v,fE] h fun r h'=>Ps h' r (cpt D)∧h.nx≤h'.nx∧∀j,j<h.nx→j≠id→h'.get j=h.get j:=by
 refine RnC.enter' Tryz.f79 _ 66 [.tmp 4] (hS.ns _ _ _ (by simp)) bd79 Tryz.func79 rfl rfl rfl ?_
 obtain ⟨lv,sv,ov⟩:=hm.ps.ln
 have hf:oneA fE=true:=rfl
 have hTc:=hS.tc
 by_cases c0:D.length<2
 ·have c1:((D.length:Nat):Int)<2:=by omega
  simp -dsimp (disch:=(repeat first | rw [nxn] | rw [nxp]);try omega) only [go_sem,ov,lv,hf,c1]
  refine ⟨?_,Nat.le_refl _,fun _ _ _=>by first | rfl | trivial⟩
  have:cpt D=D:=by
   match D,c0 with
   | [],_=>rfl
   | [x],_=>rfl
  rw [this]
  exact hm.ps
 have c1:¬((D.length:Nat):Int)<2:=by omega
 obtain ⟨c',hv',hc'⟩:=hm.v
 simp -dsimp (disch:=(repeat first | rw [nxn] | rw [nxp]);try omega) only [go_sem,ov,lv,hf,c1]
 refine loopK_of (RnL.rounds (Q:=fun ex u=>u.d=[]∧(ex=.exit 0∧u.t.get 0=some v∧Mr id v h u.h D∧cpt D=D∨ex=.ret∧∃r,u.t.get 4=some r∧Ps u.h r (cpt D)∧h.nx≤u.h.nx∧∀j,j<h.nx→j≠id→u.h.get j=h.get j))
  (fun m u=>u.d=[]∧u.t.get 0=some v∧u.t.get 1=some fE∧∃k:Nat,u.t.get 5=some (.int .i64 (k:Nat))∧1≤k∧k≤D.length∧cpt (D.take k)=D.take k∧Mr id v h u.h D∧m=D.length-k) ?_ (D.length-1) ?_) ?_
 ·rintro m ⟨tt,g,d⟩ ⟨e9,g0,g1,k,g5,hk1,hk2,hcp,hmr,rfl⟩
  dsimp only at e9 g0 g1 g5 hmr
  subst e9
  by_cases c2:k<D.length
  ·have c3:((k:Nat):Int)<((D.length:Nat):Int):=by omega
   have e1:((k:Nat):Int)-1=((k-1:Nat):Int):=by omega
   have e2:((k:Nat):Int)+1=((k+1:Nat):Int):=by omega
   obtain ⟨w,hw⟩:∃w,D[k]? = some w:=⟨_,List.getElem?_eq_getElem c2⟩
   obtain ⟨z,hz⟩:∃z,D[k-1]? = some z:=⟨_,List.getElem?_eq_getElem (by omega)⟩
   have a1:=pcAt hw
   have a2:=pcAt hz
   have b1:=pcLe c2
   have b2:=pcLe (show k-1<D.length by omega)
   have q2:k-1<D.length:=by omega
   have hg1:=hmr.m.g
   have hct:=cpt_take (by omega) hz hw
   have lv2:∀g,evLen Tryz.prog g #[22] (.sl id 0 D.length 3 c')=some (.int .i64 (D.length:Nat)):=by rw [←hv'];exact lv
   have ov2:oneA (.sl id 0 D.length 3 c')=true:=rfl
   rw [hv'] at g0
   simp -dsimp (disch:=(repeat first | rw [nxn] | rw [nxp]);try omega) only [go_sem,c3,g0,g1,g5,lv2]
   refine syDraw.keepN 0 (fun _=>True) (by kernel_rfl) (by kernel_rfl) rfl ?_
   simp -dsimp (disch:=(repeat first | rw [nxn] | rw [nxp]);try omega) only [go_sem,g0,g1,g5,c2,q2,hg1,a1,a2,b1,b2,hf,fE,e1]
   refine callK_of (eqlC hTc _ w z) ?_
   rintro ww g5' ⟨rfl,f5⟩
   have hmr5:=(hmr.more (n:=g.nx+11) (by omega)).fr f5
   by_cases hq:w.1=z.1
   ·have hqd:decide (w.1=z.1)=true:=by simpa using hq
    rw [if_pos hq,hcp] at hct
    have sl1:=fun g=>slK g id (c:=c') (show k≤D.length by omega)
    have lv3:∀g,evLen Tryz.prog g #[22] (.sl id (k*3) (D.length-k) 3 (c'.map (· - k)))=some (.int .i64 ((D.length-k:Nat):Int)):=fun g=>by simp [evLen,Tryz.underlying22]
    simp -dsimp (disch:=(repeat first | rw [nxn] | rw [nxp]);try omega) only [go_sem,hqd,g0,g1,g5,sl1]
    clear hmr hg1 a1 a2 b1 b2 q2
    refine loopK_of (RnL.rounds (Q:=fun ex u=>ex=.exit 2∧u.d=[]∧u.t.get 0=some (.sl id 0 D.length 3 c')∧∃C J:PL,u.t.get 5=some (.int .i64 (C.length:Nat))∧C=cpt D∧C.length+J.length=D.length-1∧Mr id v h u.h (C++J++D.drop (D.length-1)))
     (fun m u=>u.d=[]∧u.t.get 0=some (.sl id 0 D.length 3 c')∧u.t.get 1=some fE∧u.t.get 6=some (.sl id (k*3) (D.length-k) 3 (c'.map (· - k)))∧∃(n:Nat) (C J:PL),u.t.get 7=some (.int .i64 ((n-k:Nat):Int))∧u.t.get 5=some (.int .i64 (C.length:Nat))∧k<n∧n≤D.length∧C=cpt (D.take n)∧C.length+J.length=n-1∧Mr id v h u.h (C++J++D.drop (n-1))∧m=D.length-n) ?_ (D.length-(k+1)) ?_) ?_
    ·rintro m ⟨tt2,g2,d2⟩ ⟨e9,g0,g1,g6,n,C,J,g7,g5,hkn,hn,hC,hCJ,hmr,rfl⟩
     dsimp only at e9 g0 g1 g6 g7 g5 hmr
     subst e9
     by_cases c4:n<D.length
     ·have c5:((n-k:Nat):Int)<((D.length-k:Nat):Int):=by omega
      have e3:((n-k:Nat):Int)-1=((n-k-1:Nat):Int):=by omega
      have e4:((n-k:Nat):Int)+1=((n+1-k:Nat):Int):=by omega
      have e5:((C.length:Nat):Int)+1=((C.length+1:Nat):Int):=by omega
      obtain ⟨w1,hw1⟩:∃w,D[n]? = some w:=⟨_,List.getElem?_eq_getElem c4⟩
      obtain ⟨z1,hz1⟩:∃z,D[n-1]? = some z:=⟨_,List.getElem?_eq_getElem (by omega)⟩
      have hct1:=cpt_take (by omega) hz1 hw1
      have dz:D.drop (n-1)=z1::D.drop n:=by
       rw [List.drop_eq_getElem_cons (show n-1<D.length by omega),(List.getElem?_eq_some_iff.1 hz1).2,show n-1+1=n by omega]
      have dw:D.drop n=w1::D.drop (n+1):=by rw [List.drop_eq_getElem_cons c4,(List.getElem?_eq_some_iff.1 hw1).2]
      have hll:(C++J++D.drop (n-1)).length=D.length:=by simp only [List.length_append,List.length_drop];omega
      obtain ⟨a1,b1,q1⟩:=at2 (l:=C++J++D.drop (n-1)) (X:=C++J++[z1]) (Z:=D.drop (n+1)) (u:=w1) (p:=n) (by rw [dz,dw];simp) (by simp only [List.length_append,List.length_cons,List.length_nil];omega)
      obtain ⟨a2,b2,q2⟩:=at2 (l:=C++J++D.drop (n-1)) (X:=C++J) (Z:=D.drop n) (u:=z1) (p:=n-1) (by rw [dz]) (by simp only [List.length_append];omega)
      have he1:k*3+(n-k)*3=n*3:=by omega
      have he2:k*3+(n-k-1)*3=(n-1)*3:=by omega
      have q3:n-k<D.length-k:=by omega
      have q4:n-k-1<D.length-k:=by omega
      have hg1:=hmr.m.g
      simp -dsimp (disch:=(repeat first | rw [nxn] | rw [nxp]);try omega) only [go_sem,c5,g0,g1,g5,g6,g7,lv3]
      refine syDraw.keepN 0 (fun _=>True) (by kernel_rfl) (by kernel_rfl) rfl ?_
      simp -dsimp (disch:=(repeat first | rw [nxn] | rw [nxp]);try omega) only [go_sem,g0,g1,g5,g6,g7,q3,q4,he1,he2,hg1,a1,a2,b1,b2,hf,fE,e3]
      refine callK_of (eqlC hTc _ w1 z1) ?_
      rintro ww2 g6' ⟨rfl,f6⟩
      have hmr6:=(hmr.more (n:=g2.nx+12) (by omega)).fr f6
      by_cases hq1:w1.1=z1.1
      ·have hqd1:decide (w1.1=z1.1)=true:=by simpa using hq1
       rw [if_pos hq1] at hct1
       simp -dsimp (disch:=(repeat first | rw [nxn] | rw [nxp]);try omega) only [go_sem,hqd1,g0,g1,g5,g6,g7,e4]
       exact ⟨D.length-(n+1),by omega,trivial,trivial,trivial,trivial,n+1,C,J++[z1],rfl,rfl,by omega,by omega,by rw [hC,hct1],by simp only [List.length_append,List.length_cons,List.length_nil];omega,hmr6.eqL (by rw [dz,Nat.add_sub_cancel];simp),rfl⟩
      ·have hqd1:decide (w1.1=z1.1)=false:=by simpa using hq1
       rw [if_neg hq1] at hct1
       have hg6:=hmr6.m.g
       have hCl:C.length<(C++J++D.drop (n-1)).length:=by omega
       have hCl2:C.length<D.length:=by omega
       have s1:=pcSet w1 hCl
       have b3:=pcLe hCl
       have hst:(C++J++D.drop (n-1)).set C.length w1=(C++[w1])++(J++[z1]).tail++D.drop n:=by rw [dz];exact set_tail
       rw [hst] at s1
       simp -dsimp (disch:=(repeat first | rw [nxn] | rw [nxp]);try omega) only [go_sem,hqd1,g0,g1,g5,g6,g7,e4,e5,q3,he1,hCl2,hg6,a1,b1,b3,s1]
       refine ⟨D.length-(n+1),by omega,trivial,trivial,trivial,trivial,n+1,C++[w1],(J++[z1]).tail,rfl,by simp,by omega,by omega,by rw [hC,hct1],by simp only [List.length_append,List.length_tail,List.length_cons,List.length_nil];omega,?_,rfl⟩
       rw [Nat.add_sub_cancel]
       exact hmr6.put1 (by rw [←hst,List.length_set]) (Nat.le_refl _)
     ·have c5:¬((n-k:Nat):Int)<((D.length-k:Nat):Int):=by omega
      obtain rfl:n=D.length:=by omega
      rw [List.take_length] at hC
      simp -dsimp (disch:=(repeat first | rw [nxn] | rw [nxp]);try omega) only [go_sem,c5,g0,g1,g5,g6,g7,lv3]
      exact ⟨trivial,trivial,trivial,C,J,rfl,hC,hCJ,hmr⟩
    ·simp -dsimp (disch:=(repeat first | rw [nxn] | rw [nxp]);try omega) only [go_sem]
     exact ⟨trivial,g0,g1,trivial,k+1,D.take k,[],by rw [show k+1-k=1 by omega];rfl,by rw [List.length_take,Nat.min_eq_left hk2];exact g5,by omega,by omega,hct.symm,by rw [List.length_take,List.length_nil];omega,hmr5.eqL (by simp),rfl⟩
    ·rintro ex ⟨tt2,g2,d2⟩ ⟨rfl,rfl,g0,C,J,g5,hC,hCJ,hmr⟩
     dsimp only at g0 g5 hmr
     have hg1:=hmr.m.g
     have hll:(C++J++D.drop (D.length-1)).length=D.length:=by simp only [List.length_append,List.length_drop];omega
     have sl2:=fun g=>slK g id (c:=c') (show C.length≤D.length by omega)
     have sl3:=fun g=>slT g id (show C.length≤D.length by omega) hc'
     have clr:=clrP (off:=C.length*3) (n:=D.length-C.length) (c:=c'.map (· - C.length)) hg1 (by omega) (by rw [pc_len,hll];omega)
     simp -dsimp (disch:=(repeat first | rw [nxn] | rw [nxp]);try omega) only [go_sem,g0,g5,sl2,clr,sl3]
     refine ⟨trivial,.inr ⟨trivial,_,rfl,?_,hmr.nx,fun j hj hne=>(AH.get_put_ne hne).trans (hmr.ot j hj hne)⟩⟩
     rw [←hC,List.append_assoc C J]
     exact psHead (show id<g2.nx from hmr.m.lt) (by intro q hq;rcases hc' with rfl | rfl <;> simp at hq;omega)
   ·have hqd:decide (w.1=z.1)=false:=by simpa using hq
    rw [if_neg hq,hcp] at hct
    have tw:D.take (k+1)=D.take k++[w]:=by rw [List.take_add_one,hw];rfl
    simp -dsimp (disch:=(repeat first | rw [nxn] | rw [nxp]);try omega) only [go_sem,hqd,g0,g1,g5,e2]
    exact ⟨D.length-(k+1),by omega,trivial,hv'.symm,trivial,k+1,rfl,by omega,by omega,by rw [hct,tw],hmr5,rfl⟩
  ·have c3:¬((k:Nat):Int)<((D.length:Nat):Int):=by omega
   have:k=D.length:=by omega
   subst this
   rw [List.take_length] at hcp
   simp -dsimp (disch:=(repeat first | rw [nxn] | rw [nxp]);try omega) only [go_sem,c3,g0,g1,g5,lv]
   exact ⟨trivial,.inl ⟨trivial,trivial,hmr,hcp⟩⟩
 ·simp -dsimp (disch:=(repeat first | rw [nxn] | rw [nxp]);try omega) only [go_sem]
  exact ⟨trivial,trivial,trivial,1,rfl,Nat.le_refl _,by omega,by cases D <;> simp [cpt,cptA],Mr.refl hm,rfl⟩
 ·rintro ex ⟨tt,g,d⟩ ⟨e9,⟨rfl,g0,hmr,hcp⟩ | ⟨rfl,r,g4,hp,hn,ho⟩⟩
  ·dsimp only at e9 g0 hmr
   subst e9
   simp -dsimp (disch:=(repeat first | rw [nxn] | rw [nxp]);try omega) only [go_sem,g0,ov]
   rw [hcp]
   exact ⟨hmr.m.ps,hmr.nx,hmr.ot⟩
  ·dsimp only at e9 g4 hp hn ho
   subst e9
   simp -dsimp (disch:=(repeat first | rw [nxn] | rw [nxp]);try omega) only [go_sem,g4]
   exact ⟨hp,hn,ho⟩
end
section
variable {S : Sums}
theorem insE (hS:Ts S) {h:AH} {v:AV} (ov:oneA v=true):RnC Tryz.prog S 145 [v,.int .i64 0,.int .i64 0,fK] h fun r h'=>Fr h h':=by
 refine RnC.enter' Tryz.f145 _ 53 [] (hS.ns _ _ _ (by simp)) bd145 Tryz.func145 rfl rfl rfl ?_
 have hf:oneA fK=true:=rfl
 have c1:¬(1:Int)<0:=by omega
 simp -dsimp (disch:=(repeat first | rw [nxn] | rw [nxp]);try omega) only [go_sem,ov]
 refine loopK_of (RnL.rounds (Q:=fun ex u=>ex=.exit 0∧u.d=[]∧u.h=h) (fun m u=>u.d=[]∧u.h=h∧u.t.get 2=some (.int .i64 0)∧u.t.get 8=some (.int .i64 1)) ?_ 0 ?_) ?_
 ·rintro m ⟨tt,g,d⟩ ⟨e9,e1,g2,g8⟩
  dsimp only at e9 e1 g2 g8
  subst e9 e1
  simp -dsimp (disch:=(repeat first | rw [nxn] | rw [nxp]);try omega) only [go_sem,c1,g2,g8]
  simp
 ·simp -dsimp (disch:=(repeat first | rw [nxn] | rw [nxp]);try omega) only [go_sem]
  simp
 ·rintro ex ⟨tt,g,d⟩ ⟨rfl,rfl,e1⟩
  dsimp only at e1
  subst e1
  simp -dsimp (disch:=(repeat first | rw [nxn] | rw [nxp]);try omega) only [go_sem]
  exact Fr.refl _
theorem stabE (hS:Ts S) {h:AH} {v:AV} (ov:oneA v=true):RnC Tryz.prog S 124 [v,.int .i64 0,fK] h fun r h'=>Fr h h':=by
 refine RnC.enter' Tryz.f124 _ 63 [] (hS.ns _ _ _ (by simp)) bd124 Tryz.func124 rfl rfl rfl ?_
 have hf:oneA fK=true:=rfl
 have c1:¬(20:Int)≤0:=by omega
 have c2:¬(20:Int)<0:=by omega
 simp -dsimp (disch:=(repeat first | rw [nxn] | rw [nxp]);try omega) only [go_sem,ov]
 refine loopK_of (RnL.rounds (Q:=fun ex u=>ex=.exit 0∧u.d=[]∧u.h=h∧u.t.get 0=some v∧u.t.get 1=some (.int .i64 0)∧u.t.get 2=some fK∧u.t.get 6=some (.int .i64 20)∧u.t.get 7=some (.int .i64 0)) (fun m u=>u.d=[]∧u.h=h∧u.t.get 0=some v∧u.t.get 1=some (.int .i64 0)∧u.t.get 2=some fK∧u.t.get 6=some (.int .i64 20)∧u.t.get 7=some (.int .i64 0)∧u.t.get 8=some (.int .i64 20)) ?_ 0 ?_) ?_
 ·rintro m ⟨tt,g,d⟩ ⟨e9,e1,g0,g1,g2,g6,g7,g8⟩
  dsimp only at e9 e1 g0 g1 g2 g6 g7 g8
  subst e9 e1
  simp -dsimp (disch:=(repeat first | rw [nxn] | rw [nxp]);try omega) only [go_sem,c1,g0,g1,g2,g6,g7,g8]
  simp
 ·simp -dsimp (disch:=(repeat first | rw [nxn] | rw [nxp]);try omega) only [go_sem]
  simp
 ·rintro ex ⟨tt,g,d⟩ ⟨rfl,rfl,e1,g0,g1,g2,g6,g7⟩
  dsimp only at e1 g0 g1 g2 g6 g7
  subst e1
  simp -dsimp (disch:=(repeat first | rw [nxn] | rw [nxp]);try omega) only [go_sem,g0,g1,g2,g6,g7,ov,hf]
  refine callK_of (insE hS ov) ?_
  intro w g5 f5
  try simp -dsimp (disch:=(repeat first | rw [nxn] | rw [nxp]);try omega) only [go_sem,g0,g1,g2,g6,g7]
  refine loopK_of (RnL.rounds (Q:=fun ex u=>ex=.exit 2∧u.d=[]∧u.h=g5) (fun m u=>u.d=[]∧u.h=g5∧u.t.get 1=some (.int .i64 0)∧u.t.get 6=some (.int .i64 20)) ?_ 0 ?_) ?_
  ·rintro m ⟨tt2,g',d2⟩ ⟨e9,e1,g1,g6⟩
   dsimp only at e9 e1 g1 g6
   subst e9 e1
   simp -dsimp (disch:=(repeat first | rw [nxn] | rw [nxp]);try omega) only [go_sem,c2,g1,g6]
   simp
  ·simp -dsimp (disch:=(repeat first | rw [nxn] | rw [nxp]);try omega) only [go_sem]
   simp [g1,g6]
  ·rintro ex ⟨tt2,g',d2⟩ ⟨rfl,rfl,e1⟩
   dsimp only at e1
   subst e1
   simp -dsimp (disch:=(repeat first | rw [nxn] | rw [nxp]);try omega) only [go_sem]
   exact f5
theorem sortE (hS:Ts S) {h:AH} {v:AV} (hv:Ps h v []):RnC Tryz.prog S 76 [v,fK] h fun r h'=>Fr h h':=by
 refine RnC.enter' Tryz.f76 _ 9 [] (hS.ns _ _ _ (by simp)) bd76 Tryz.func76 rfl rfl rfl ?_
 obtain ⟨lv,sv,ov⟩:=hv.ln
 have hf:oneA fK=true:=rfl
 simp -dsimp (disch:=(repeat first | rw [nxn] | rw [nxp]);try omega) only [go_sem,ov,lv,hf]
 refine callK_of (stabE hS ov) ?_
 intro w g hr
 try simp -dsimp (disch:=(repeat first | rw [nxn] | rw [nxp]);try omega) only [go_sem]
 exact hr
theorem revE (hS:Ts S) {h:AH} {v:AV} (hv:Ps h v []):RnC Tryz.prog S 75 [v] h fun r h'=>Fr h h':=by
 refine RnC.enter' Tryz.f75 _ 28 [] (hS.ns _ _ _ (by simp)) bd75 Tryz.func75 rfl rfl rfl ?_
 obtain ⟨lv,sv,ov⟩:=hv.ln
 have c1:¬(0:Int)<0-1:=by omega
 simp -dsimp (disch:=(repeat first | rw [nxn] | rw [nxp]);try omega) only [go_sem,ov,lv]
 refine loopK_of (RnL.rounds (Q:=fun ex u=>ex=.exit 0∧u.d=[]∧u.h=h) (fun m u=>u.d=[]∧u.h=h∧u.t.get 2=some (.int .i64 0)∧u.t.get 3=some (.int .i64 (0-1))) ?_ 0 ?_) ?_
 ·rintro m ⟨tt,g,d⟩ ⟨e9,e1,g2,g3⟩
  dsimp only at e9 e1 g2 g3
  subst e9 e1
  simp -dsimp (disch:=(repeat first | rw [nxn] | rw [nxp]);try omega) only [go_sem,c1,g2,g3]
  simp
 ·simp -dsimp (disch:=(repeat first | rw [nxn] | rw [nxp]);try omega) only [go_sem]
  simp
 ·rintro ex ⟨tt,g,d⟩ ⟨rfl,rfl,e1⟩
  dsimp only at e1
  subst e1
  simp -dsimp (disch:=(repeat first | rw [nxn] | rw [nxp]);try omega) only [go_sem]
  exact Fr.refl _
theorem compE (hS:Ts S) {h:AH} {v:AV} (hv:Ps h v []):RnC Tryz.prog S 79 [v,fE] h fun r h'=>r=v∧Fr h h':=by
 refine RnC.enter' Tryz.f79 _ 66 [.tmp 4] (hS.ns _ _ _ (by simp)) bd79 Tryz.func79 rfl rfl rfl ?_
 obtain ⟨lv,sv,ov⟩:=hv.ln
 have hf:oneA fE=true:=rfl
 have c1:(0:Int)<2:=by omega
 simp -dsimp (disch:=(repeat first | rw [nxn] | rw [nxp]);try omega) only [go_sem,ov,lv,hf,c1]
 exact ⟨by first | rfl | trivial,Fr.refl _⟩
theorem lastC (hS:Ts S) {h:AH} {v:AV} {l:PL} (hv:Ps h v l) (hl:l.length≤100000):RnC Tryz.prog S 35 [v] h fun r h'=>Ps h' r (lastD l)∧Fr h h':=by
 refine RnC.enter' Tryz.f35 _ 11 [.tmp 2] (hS.ns _ _ _ (by simp)) bd35 Tryz.func35 rfl rfl rfl ?_
 have ov:=hv.ln.2.2
 have hfe:fE=.func (.func 80) [] []:=rfl
 have hfk:fK=.func (.func 77) [] []:=rfl
 simp -dsimp (disch:=(repeat first | rw [nxn] | rw [nxp]);try omega) only [go_sem,ov]
 refine callK_of (cloneC hS hv hl) ?_
 rintro r1 g1 ⟨f1,hz1⟩
 have hp1:=Ps.of hz1
 have ov1:=hp1.ln.2.2
 cases l with
 | nil =>
  try simp -dsimp (disch:=(repeat first | rw [nxn] | rw [nxp]);try omega) only [go_sem,ov1]
  refine callK_of (revE hS hp1) ?_
  intro w2 g2 f2
  try simp -dsimp (disch:=(repeat first | rw [nxn] | rw [nxp]);try omega) only [go_sem,ov1]
  refine callK_of (sortE hS (hp1.fr f2)) ?_
  intro w3 g3 f3
  try simp -dsimp (disch:=(repeat first | rw [nxn] | rw [nxp]);try omega) only [go_sem,ov1]
  refine callK_of (compE hS ((hp1.fr f2).fr f3)) ?_
  rintro w4 g4 ⟨rfl,f4⟩
  try simp -dsimp (disch:=(repeat first | rw [nxn] | rw [nxp]);try omega) only [go_sem,ov1]
  exact ⟨((hp1.fr f2).fr f3).fr f4,((f1.trans f2).trans f3).trans f4⟩
 | cons p l =>
  obtain ⟨id,hid,hm⟩:∃id,h.nx≤id∧Mt id r1 g1 (p::l):=by
   rcases hz1 with ⟨_,h0⟩ | ⟨id,n,c,tx,h1,h2,h3,h4,h5,h6,h7⟩
   ·simp [pc] at h0
   ·rw [pc_len] at h5
    have hn:n=(p::l).length:=by omega
    subst hn
    refine ⟨id,h4,⟨c,h1,h6⟩,?_,h3⟩
    rcases h7 with rfl | ⟨h7,_⟩
    ·exact h2
    ·simp [pc] at h7
  try simp -dsimp (disch:=(repeat first | rw [nxn] | rw [nxp]);try omega) only [go_sem,ov1]
  refine callK_of (revC hS hm (by simp) hl) ?_
  intro w2 g2 m2
  try simp -dsimp (disch:=(repeat first | rw [nxn] | rw [nxp]);try omega) only [go_sem,ov1]
  refine callK_of (sortC hS m2.m (by rw [List.length_reverse];exact hl)) ?_
  intro w3 g3 m3
  try simp -dsimp (disch:=(repeat first | rw [nxn] | rw [nxp]);try omega) only [go_sem,ov1]
  refine callK_of (compC hS m3.m (by rw [isort_len,List.length_reverse];exact hl)) ?_
  rintro w4 g4 ⟨hp4,hn4,ho4⟩
  have ov4:=hp4.ln.2.2
  have hp5:Ps g4 w4 (lastD (p::l)):=by rw [←lastA_eq];exact hp4
  have hfr:Fr h g4:=⟨by have:=f1.nx;have:=m2.nx;have:=m3.nx;omega,fun j hj=>by
   have n1:=f1.nx;have n2:=m2.nx;have n3:=m3.nx
   exact (ho4 j (by omega) (by omega)).trans ((m3.ot j (by omega) (by omega)).trans ((m2.ot j (by omega) (by omega)).trans (f1.get j hj)))⟩
  rcases psShape hp5 with rfl | ⟨i5,o5,n5',c5,rfl⟩
  all_goals
   try simp -dsimp (disch:=(repeat first | rw [nxn] | rw [nxp]);try omega) only [go_sem,ov4]
   exact ⟨hp5,hfr⟩
end
section
variable {S : Sums}
structure Tq (S:Sums):Prop where
 nq:∀f args h,f∈[64,111,112,110,140]→S f args h=none
abbrev aP (p:Pr):AV:=.agg [.str p.1,.str p.2.1,.bool p.2.2]
def badA (p:Pr):Bool:=decide (p.1=[])
def badL (p:Pr):Bool:=decide (512<p.1.length)||(!p.2.2&&decide (65536<p.2.1.length))
theorem rightAC (hS:Tq S) (h:AH) (p:Pr):RnC Tryz.prog S 111 [aP p] h fun r h'=>r=.bool (badA p)∧Fr h h':=by
 refine RnC.enter' Tryz.f111 _ 6 [.tmp 2] (hS.nq _ _ _ (by simp)) bd111 Tryz.func111 rfl rfl rfl ?_
 have d1:∀(o1:AO),(h.new o1).get h.nx=some o1:=fun o1=>AH.get_new_eq rfl
 simp -dsimp only [go_sem,d1,eqSt,aP,b0e]
 exact ⟨by first | rfl | trivial,Fr.new _ _⟩
theorem rightLC (hS:Tq S) (h:AH) (p:Pr):RnC Tryz.prog S 112 [aP p] h fun r h'=>r=.bool (badL p)∧Fr h h':=by
 refine RnC.enter' Tryz.f112 _ 18 [.tmp 2] (hS.nq _ _ _ (by simp)) bd112 Tryz.func112 rfl rfl rfl ?_
 have d1:∀(o1:AO),(h.new o1).get h.nx=some o1:=fun o1=>AH.get_new_eq rfl
 have ls:∀g s,evLen Tryz.prog g #[9] (.str s)=some (.int .i64 ((s.length:Nat):Int)):=fun g s=>by simp [evLen,Tryz.underlying9]
 unfold badL
 by_cases c1:512<p.1.length
 ·have c2:(512:Int)<((p.1.length:Nat):Int):=by omega
  simp -dsimp only [go_sem,d1,aP,ls,c2]
  exact ⟨by simp [c1],Fr.new _ _⟩
 ·have c2:¬(512:Int)<((p.1.length:Nat):Int):=by omega
  cases hg:p.2.2
  ·by_cases c3:65536<p.2.1.length
   ·have c4:(65536:Int)<((p.2.1.length:Nat):Int):=by omega
    simp -dsimp only [go_sem,d1,aP,ls,c2,hg,c4]
    exact ⟨by simp [c1,c3],Fr.new _ _⟩
   ·have c4:¬(65536:Int)<((p.2.1.length:Nat):Int):=by omega
    simp -dsimp only [go_sem,d1,aP,ls,c2,hg,c4]
    exact ⟨by simp [c1,c3],Fr.new _ _⟩
  ·simp -dsimp only [go_sem,d1,aP,ls,c2,hg]
   exact ⟨by simp [c1],Fr.new _ _⟩
theorem idxC (hS:Tq S) {f:FuncId} (hbd:bodied Tryz.prog f=true) (q:Pr→Bool) (hq:∀h p,RnC Tryz.prog S f [aP p] h fun r h'=>r=.bool (q p)∧Fr h h') {h:AH} {v:AV} {l:KL (List Nat×Bool)} (hv:Ps h v l) (hl:l.length≤1000000) :
  RnC Tryz.prog S 140 [v,.func (.func f) [] []] h fun r h'=>(∃i:Int,r=.int .i64 i∧decide (0≤i)=l.any q)∧Fr h h':=by
 refine RnC.enter' Tryz.f140 _ 19 [.tmp 4] (hS.nq _ _ _ (by simp)) bd140 Tryz.func140 rfl rfl rfl ?_
 obtain ⟨lv,sv,ov⟩:=hv.ln
 have hf:oneA (.func (.func f) [] [])=true:=rfl
 simp -dsimp (disch:=(repeat first | rw [nxn] | rw [nxp]);try omega) only [go_sem,lv,ov,hf]
 refine loopK_of (RnL.rounds (Q:=fun ex u=>u.d=[]∧Fr h u.h∧(ex=.exit 0∧l.any q=false∨ex=.ret∧∃i:Nat,u.t.get 4=some (.int .i64 (i:Nat))∧l.any q=true))
  (fun m u=>u.d=[]∧Fr h u.h∧u.t.get 0=some v∧u.t.get 1=some (.func (.func f) [] [])∧u.t.get 7=some (.int .i64 (l.length:Nat))∧∃i:Nat,u.t.get 8=some (.int .i64 (i:Nat))∧i≤l.length∧(l.take i).any q=false∧m=l.length-i) ?_ l.length ?_) ?_
 ·rintro m ⟨tt,g,d⟩ ⟨e2,e1,g0,g1,g7,i,g8,hi,hn,rfl⟩
  dsimp only at e1 e2 g0 g1 g7 g8
  subst e2
  by_cases c4:(i:Int)<(l.length:Nat)
  ·have hil:i<l.length:=by omega
   obtain ⟨p,hp⟩:∃p,l[i]? = some p:=⟨_,List.getElem?_eq_getElem hil⟩
   obtain ⟨id,off,c,cs,o,tx,rfl,hgi,hidl,hle,hx,_⟩:=Ps.at hv hp
   have hgx:=(e1.get id hidl).trans hgi
   have ht:l.take (i+1)=l.take i++[p]:=by rw [List.take_add_one,hp];rfl
   simp -dsimp (disch:=(repeat first | rw [nxn] | rw [nxp]);try omega) only [go_sem,lv,c4,g0,g1,g7,g8,hil,hgx,hle,hx,hbd]
   refine callK_of (hq g p) ?_
   rintro w g2 ⟨rfl,f2⟩
   cases hqp:q p
   ·simp -dsimp (disch:=(repeat first | rw [nxn] | rw [nxp]);try omega) only [go_sem,lv,c4,g0,g1,g7,g8]
    exact ⟨l.length-(i+1),by omega,trivial,e1.trans f2,trivial,trivial,trivial,i+1,rfl,by omega,by rw [ht,List.any_append,hn];simp [hqp],rfl⟩
   ·simp -dsimp only [go_sem,lv,c4,g0,g1,g7,g8]
    refine ⟨trivial,e1.trans f2,.inr ⟨trivial,i,rfl,?_⟩⟩
    rw [List.any_eq_true]
    exact ⟨p,List.mem_iff_getElem?.2 ⟨i,hp⟩,hqp⟩
  ·have:i=l.length:=by omega
   subst this
   rw [List.take_length] at hn
   simp -dsimp only [go_sem,lv,c4,g0,g1,g7,g8]
   exact ⟨trivial,e1,.inl ⟨trivial,hn⟩⟩
 ·simp -dsimp only [go_sem]
  exact ⟨trivial,Fr.refl _,trivial,trivial,trivial,0,rfl,Nat.zero_le _,rfl,rfl⟩
 ·rintro ex ⟨tt,g,d⟩ ⟨e2,e1,⟨rfl,hn⟩ | ⟨rfl,i,g4,hn⟩⟩
  ·dsimp only at e1 e2
   subst e2
   simp -dsimp only [go_sem]
   exact ⟨⟨_,rfl,by rw [hn];rfl⟩,e1⟩
  ·dsimp only at e1 e2 g4
   subst e2
   simp -dsimp only [go_sem,g4]
   exact ⟨⟨_,rfl,by rw [hn];simp⟩,e1⟩
theorem conC (hS:Tq S) {f:FuncId} (hbd:bodied Tryz.prog f=true) (q:Pr→Bool) (hq:∀h p,RnC Tryz.prog S f [aP p] h fun r h'=>r=.bool (q p)∧Fr h h') {h:AH} {v:AV} {l:KL (List Nat×Bool)} (hv:Ps h v l) (hl:l.length≤1000000) :
  RnC Tryz.prog S 110 [v,.func (.func f) [] []] h fun r h'=>r=.bool (l.any q)∧Fr h h':=by
 refine RnC.enter' Tryz.f110 _ 9 [.tmp 4] (hS.nq _ _ _ (by simp)) bd110 Tryz.func110 rfl rfl rfl ?_
 obtain ⟨lv,sv,ov⟩:=hv.ln
 have hf:oneA (.func (.func f) [] [])=true:=rfl
 simp -dsimp only [go_sem,lv,ov,hf]
 refine callK_of (idxC hS hbd q hq hv hl) ?_
 rintro w g ⟨⟨i,rfl,hi⟩,f1⟩
 simp -dsimp only [go_sem,hi]
 exact ⟨by first | rfl | trivial,f1⟩
def mayP (l:KL (List Nat×Bool)):Nat:=if l.any badA=true then 2 else if l.any badL=true then 3 else 0
theorem mayC (hS:Tq S) {h:AH} {v:AV} {l:KL (List Nat×Bool)} (hv:Ps h v l) (hl:l.length≤1000000) :
  RnC Tryz.prog S 64 [v] h fun r h'=>r=.int .i64 (mayP l:Nat)∧Fr h h':=by
 refine RnC.enter' Tryz.f64 _ 7 [.tmp 2] (hS.nq _ _ _ (by simp)) bd64 Tryz.func64 rfl rfl rfl ?_
 obtain ⟨lv,sv,ov⟩:=hv.ln
 simp -dsimp only [go_sem,lv,ov]
 refine callK_of (conC hS bd111 badA (rightAC hS) hv hl) ?_
 rintro w g ⟨rfl,f1⟩
 unfold mayP
 cases h1:l.any badA
 ·simp -dsimp only [go_sem,lv,ov]
  refine callK_of (conC hS bd112 badL (rightLC hS) (hv.fr f1) hl) ?_
  rintro w g2 ⟨rfl,f2⟩
  cases h2:l.any badL
  ·simp -dsimp only [go_sem]
   exact ⟨by first | rfl | trivial,f1.trans f2⟩
  ·simp -dsimp only [go_sem]
   exact ⟨by first | rfl | trivial,f1.trans f2⟩
 ·simp -dsimp only [go_sem]
  exact ⟨by first | rfl | trivial,f1⟩
end
end Go.Proofs.YtaooopaemphfjaaGreatDoor.tbl
end