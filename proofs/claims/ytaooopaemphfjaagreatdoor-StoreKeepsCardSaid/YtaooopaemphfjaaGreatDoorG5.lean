/- Texts joined: RCg, RCh, RCi, RCj. -/
import Derived.Test.YtaooopaemphfjaaGreatDoorG2
import Derived.Test.YtaooopaemphfjaaGreatDoorG4
set_option maxRecDepth 100000
set_option linter.unusedVariables false
set_option linter.unusedSimpArgs false
set_option maxHeartbeats 16000000
section
namespace Go.Proofs.YtaooopaemphfjaaGreatDoor.tbl
open Go Go.Abs Go.Abs.Rec Go.Abs.Stb Go.Proofs
theorem flat_le {α:Type} (f:α→List Nat) (m:List α) (i:Nat):((m.take i).flatMap f).length≤(m.flatMap f).length:=by
 have e:m.flatMap f=(m.take i).flatMap f++(m.drop i).flatMap f:=by rw [←List.flatMap_append,List.take_append_drop]
 rw [e,List.length_append];omega
theorem flat_take {α:Type} (f:α→List Nat) {m:List α} {i:Nat} {p:α} (h:m[i]? = some p):(m.take (i+1)).flatMap f=(m.take i).flatMap f++f p:=by
 rw [List.take_add_one,h];simp
theorem svs (l:List Nat):sameAV 20 (.str l) (.str l)=true:=by simp [sameAV]
theorem piece_len (s:List Nat):(pieceE s).length≤s.length+2:=by
 unfold pieceE numE
 split <;> simp <;> omega
theorem recP_eq (l:KL (List Nat×Bool)):recP l=if l.any badA=true then ([],2) else if l.any badL=true then ([],3) else (recE (lastD l),0):=rfl
theorem recP_ok {l:KL (List Nat×Bool)} (h:mayP l=0):recP l=(recE (lastD l),0):=by
 unfold mayP at h
 rw [recP_eq]
 split at h
 ·cases h
 ·rename_i h1
  split at h
  ·cases h
  ·rename_i h2
   rw [if_neg h1,if_neg h2]
theorem recP_no {l:KL (List Nat×Bool)} (h:mayP l≠0):recP l=([],mayP l):=by
 unfold mayP at h ⊢
 rw [recP_eq]
 split at h
 ·rename_i h1
  rw [if_pos h1,if_pos h1]
 ·rename_i h1
  rw [if_neg h1,if_neg h1]
  split at h
  ·rename_i h2
   rw [if_pos h2,if_pos h2]
  ·exact absurd rfl h
section
variable {S : Sums}
structure To (S:Sums):Prop extends Tr2 S,Tq S,Ts S,Tb S where
 no:∀f args h,f∈[28,30,62,26]→S f args h=none
theorem recoC (hS:To S) {h:AH} {v:AV} {l:KL (List Nat×Bool)} (hv:Ps h v l) (hl:l.length≤4096) (hpl:∀p∈l,p.1.length<16384∧p.2.1.length<16384) (ht:(recE (lastD l)).length≤1048576) (hby:∀b∈recE (lastD l),b<256) :
  RnC Tryz.prog S 28 [v] h fun r h'=>r=.tup [.str (recP l).1,.int .i64 ((recP l).2:Nat)]∧Fr h h':=by
 refine RnC.enter' Tryz.f28 _ 50 [.tmp 2,.tmp 3] (hS.no _ _ _ (by simp)) bd28 Tryz.func28 rfl rfl rfl ?_
 obtain ⟨lv,sv,ov⟩:=hv.ln
 simp -dsimp (disch:=(repeat first | rw [nxn] | rw [nxp]);try omega) only [go_sem,ov]
 refine callK_of (mayC hS.toTq hv (by omega)) ?_
 rintro w g ⟨rfl,f1⟩
 by_cases hm:mayP l=0
 ·rw [recP_ok hm]
  have c1:((mayP l:Nat):Int)=0:=by omega
  have c2:¬(4096:Int)<((l.length:Nat):Int):=by omega
  simp -dsimp (disch:=(repeat first | rw [nxn] | rw [nxp]);try omega) only [go_sem,c1,lv,c2,ov]
  refine callK_of (lastC hS.toTs (hv.fr f1) (by omega)) ?_
  rintro w2 g2 ⟨hp2,f2⟩
  have hmp:∀p∈lastD l,p.1.length<16384∧p.2.1.length<16384:=fun p hp=>hpl p (last_mem hp)
  have hml:=last_len l
  generalize hmd:lastD l=m at hp2 hmp hml ht hby
  obtain ⟨lm,sm,om⟩:=hp2.ln
  have hpsh:=psShape hp2
  have e1:recE m=([]++numE 1)++numE m.length++m.flatMap pairE:=by simp [recE,numE]
  have cvm:=fun h=>cv64 h m.length (by omega)
  have go:∀v,w2=v→True:=fun _ _=>trivial
  have step:∀u:St,True:=fun _=>trivial
  have hfr12:=f1.trans f2
  clear go step
  rcases hpsh with rfl | ⟨i5,o5,n5',c5,rfl⟩
  all_goals
   try simp -dsimp (disch:=(repeat first | rw [nxn] | rw [nxp]);try omega) only [go_sem,om]
   refine callK_of (numC hS.toTw (n:=1) (l:=[]) (.inl ⟨rfl,rfl⟩) (by simp) (by omega)) ?_
   rintro w3 g3 ⟨hb3,f3⟩
   have o3:=hb3.one
   simp -dsimp (disch:=(repeat first | rw [nxn] | rw [nxp]);try omega) only [go_sem,lm,cvm,om,o3]
   refine callK_of (numC hS.toTw (n:=m.length) hb3.bs (by simp [numE]) (by omega)) ?_
   rintro w4 g4 ⟨hb4,f4⟩
   have o4:=hb4.one
   have hb4':=hb4.bs
   have f24:=f3.trans f4
   rcases (bsSh hb4') with rfl | ⟨i6,o6,n6,z6,c6,rfl⟩
   all_goals
    try simp -dsimp (disch:=(repeat first | rw [nxn] | rw [nxp]);try omega) only [go_sem,lm,om,o4]
    refine loopK_of (RnL.rounds (Q:=fun ex u=>ex=.exit 0∧u.d=[]∧Fr g2 u.h∧∃w,u.t.get 5=some w∧Bs u.h w (recE m))
     (fun k u=>u.d=[]∧Fr g2 u.h∧(∃w2',u.t.get 23=some w2'∧Ps g2 w2' m)∧u.t.get 24=some (.int .i64 (m.length:Nat))∧∃(i:Nat) (w:AV),u.t.get 25=some (.int .i64 (i:Nat))∧u.t.get 5=some w∧Bs u.h w (([]++numE 1)++numE m.length++(m.take i).flatMap pairE)∧i≤m.length∧k=m.length-i) ?_ m.length ?_) ?_
    ·rintro k ⟨tt,g5,d⟩ ⟨e9,e5,⟨w2',g23,hp2'⟩,g24,i,w,g25,g5',hb,hi,rfl⟩
     dsimp only at e9 e5 g23 g24 g25 g5' hb
     subst e9
     by_cases c4:(i:Int)<(m.length:Nat)
     ·have hil:i<m.length:=by omega
      obtain ⟨p,hp⟩:∃p,m[i]? = some p:=⟨_,List.getElem?_eq_getElem hil⟩
      have hpl':=hmp p (List.mem_iff_getElem?.2 ⟨i,hp⟩)
      obtain ⟨id,off,c,cs,o,tx,rfl,hgi,hidl,hle,hx,_⟩:=Ps.at hp2' hp
      have hgx:=(e5.get id hidl).trans hgi
      have ow:=(bsOne hb).1
      have tot:(([]++numE 1)++numE m.length++(m.take (i+1)).flatMap pairE).length≤1048576:=by
       rw [e1] at ht
       have:=flat_le pairE m (i+1)
       simp only [List.length_append] at ht ⊢
       omega
      have etk:=flat_take pairE hp
      rw [etk] at tot
      have tot2:=tot
      simp only [List.length_append] at tot2
      have topl:(([]++numE 1)++numE m.length++(m.take i).flatMap pairE).length≤1048576:=by
       simp only [List.length_append];omega
      have pl1:=piece_len p.1
      cases hgn:p.2.2
      ·have epp:pairE p=numE 1++(pieceE p.1++pieceE p.2.1):=by unfold pairE;rw [if_neg (by rw [hgn];decide)];simp [numE]
       rw [hgn] at hx
       simp -dsimp (disch:=(repeat first | rw [nxn] | rw [nxp]);try omega) only [go_sem,c4,g23,g24,g25,g5',hil,hgx,hle,hx,ow]
       generalize hg4:((g5.new (.cells [.str [],.str [],.bool false] true false)).put g5.nx (.cells [.str p.1,.str p.2.1,.bool false] true false))=g4'
       have n4:g4'.nx=g5.nx+1:=by rw [←hg4];rfl
       have f4':Fr g5 g4':=by rw [←hg4];exact (Fr.new _ _).put _ (Nat.le_refl _)
       have c4':g4'.get g5.nx=some (.cells [.str p.1,.str p.2.1,.bool false] true false):=by rw [←hg4];exact AH.get_put_eq rfl
       refine syDraw.keep (fun j=>j=g5.nx) (by kernel_rfl) (by kernel_rfl) ?_
       have fx:Fr g4' { tr:=g4'.tr,nx:=g4'.nx+9 }:=(Fr.refl g4').more _ (by omega)
       simp -dsimp (disch:=(repeat first | rw [nxn] | rw [nxp]);try omega) only [go_sem,g5',ow,true_and,implies_true,svi,svb,svs]
       refine callK_of (numC hS.toTw (n:=1) ((hb.fr f4').fr fx) (Nat.le_trans topl (by decide)) (by omega)) ?_
       rintro w6 g6 ⟨hb6,f6⟩
       have o6':=hb6.one
       have c6':g6.get g5.nx=_:=(f6.get _ (by show g5.nx<g4'.nx+9;omega)).trans c4'
       refine ⟨fun j hj=>by subst hj;exact f6.get _ (by show g5.nx<g4'.nx+9;omega),?_⟩
       rcases hb6.shape with rfl | ⟨i7,n7,c7,rfl⟩
       all_goals
        simp -dsimp (disch:=(repeat first | rw [nxn] | rw [nxp]);try omega) only [go_sem,c6',o6',true_and,implies_true,svi,svb,svs]
        refine callK_of (spiC hS.toTw (s:=p.1) hb6.bs (by rw [List.length_append];have:(numE 1).length=1:=rfl;omega) hpl'.1) ?_
        rintro w7 g7 ⟨hb7,f7⟩
        have o7:=hb7.one
        have c7':g7.get g5.nx=_:=(f7.get _ (by have:=f6.nx;have h9:g4'.nx+9≤g6.nx:=this;omega)).trans c6'
        refine ⟨fun j hj=>by subst hj;exact f7.get _ (by have:=f6.nx;have h9:g4'.nx+9≤g6.nx:=this;omega),?_⟩
        rcases hb7.shape with rfl | ⟨i8,n8,c8,rfl⟩
        all_goals
         simp -dsimp (disch:=(repeat first | rw [nxn] | rw [nxp]);try omega) only [go_sem,c7',o7,true_and,implies_true,svi,svb,svs]
         refine callK_of (spiC hS.toTw (s:=p.2.1) hb7.bs (by rw [List.length_append,List.length_append];have:(numE 1).length=1:=rfl;omega) hpl'.2) ?_
         rintro w8 g8 ⟨hb8,f8⟩
         have o8:=hb8.one
         refine ⟨fun j hj=>by subst hj;exact f8.get _ (by have:=f6.nx;have h9:g4'.nx+9≤g6.nx:=this;have:=f7.nx;omega),?_⟩
         have hb8':=hb8.bs
         have e8:(([]++numE 1)++numE m.length++(m.take i).flatMap pairE)++numE 1++pieceE p.1++pieceE p.2.1=([]++numE 1)++numE m.length++((m.take i).flatMap pairE++pairE p):=by rw [epp];simp
         rw [e8] at hb8'
         obtain ⟨n8,hn8,l8⟩:∃n8:Nat,n8≤1048576∧∀g,evLen Tryz.prog g #[87] w8=some (.int .i64 (n8:Nat)):=⟨_,tot,bsLn hb8'⟩
         have c9:¬(1048576:Int)<((n8:Nat):Int):=by omega
         have ff:=((((f4'.trans fx).trans f6).trans f7).trans f8)
         rw [←etk] at hb8'
         rcases hb8.shape with rfl | ⟨i9,n9,c9',rfl⟩
         all_goals
          simp -dsimp (disch:=(repeat first | rw [nxn] | rw [nxp]);try omega) only [go_sem,l8,o8,c9,g23,g24,g25]
          exact ⟨m.length-(i+1),by omega,trivial,e5.trans ff,⟨_,rfl,hp2'⟩,trivial,i+1,_,rfl,rfl,hb8',by omega,rfl⟩
      ·have epp:pairE p=numE 0++pieceE p.1:=by unfold pairE;rw [if_pos hgn];simp [numE]
       rw [hgn] at hx
       simp -dsimp (disch:=(repeat first | rw [nxn] | rw [nxp]);try omega) only [go_sem,c4,g23,g24,g25,g5',hil,hgx,hle,hx,ow]
       generalize hg4:((g5.new (.cells [.str [],.str [],.bool false] true false)).put g5.nx (.cells [.str p.1,.str p.2.1,.bool true] true false))=g4'
       have n4:g4'.nx=g5.nx+1:=by rw [←hg4];rfl
       have f4':Fr g5 g4':=by rw [←hg4];exact (Fr.new _ _).put _ (Nat.le_refl _)
       have c4':g4'.get g5.nx=some (.cells [.str p.1,.str p.2.1,.bool true] true false):=by rw [←hg4];exact AH.get_put_eq rfl
       refine syDraw.keep (fun j=>j=g5.nx) (by kernel_rfl) (by kernel_rfl) ?_
       have fx:Fr g4' { tr:=g4'.tr,nx:=g4'.nx+6 }:=(Fr.refl g4').more _ (by omega)
       simp -dsimp (disch:=(repeat first | rw [nxn] | rw [nxp]);try omega) only [go_sem,g5',ow,true_and,implies_true,svi,svb,svs]
       refine callK_of (numC hS.toTw (n:=0) ((hb.fr f4').fr fx) (Nat.le_trans topl (by decide)) (by omega)) ?_
       rintro w6 g6 ⟨hb6,f6⟩
       have o6':=hb6.one
       have c6':g6.get g5.nx=_:=(f6.get _ (by show g5.nx<g4'.nx+6;omega)).trans c4'
       refine ⟨fun j hj=>by subst hj;exact f6.get _ (by show g5.nx<g4'.nx+6;omega),?_⟩
       rcases hb6.shape with rfl | ⟨i7,n7,c7,rfl⟩
       all_goals
        simp -dsimp (disch:=(repeat first | rw [nxn] | rw [nxp]);try omega) only [go_sem,c6',o6',true_and,implies_true,svi,svb,svs]
        refine callK_of (spiC hS.toTw (s:=p.1) hb6.bs (by rw [List.length_append];have:(numE 0).length=1:=rfl;omega) hpl'.1) ?_
        rintro w8 g8 ⟨hb8,f8⟩
        have o8:=hb8.one
        refine ⟨fun j hj=>by subst hj;exact f8.get _ (by have:=f6.nx;have h9:g4'.nx+6≤g6.nx:=this;omega),?_⟩
        have hb8':=hb8.bs
        have e8:(([]++numE 1)++numE m.length++(m.take i).flatMap pairE)++numE 0++pieceE p.1=([]++numE 1)++numE m.length++((m.take i).flatMap pairE++pairE p):=by rw [epp];simp
        rw [e8] at hb8'
        obtain ⟨n8,hn8,l8⟩:∃n8:Nat,n8≤1048576∧∀g,evLen Tryz.prog g #[87] w8=some (.int .i64 (n8:Nat)):=⟨_,tot,bsLn hb8'⟩
        have c9:¬(1048576:Int)<((n8:Nat):Int):=by omega
        have ff:=(((f4'.trans fx).trans f6).trans f8)
        rw [←etk] at hb8'
        rcases hb8.shape with rfl | ⟨i9,n9,c9',rfl⟩
        all_goals
         simp -dsimp (disch:=(repeat first | rw [nxn] | rw [nxp]);try omega) only [go_sem,l8,o8,c9,g23,g24,g25]
         exact ⟨m.length-(i+1),by omega,trivial,e5.trans ff,⟨_,rfl,hp2'⟩,trivial,i+1,_,rfl,rfl,hb8',by omega,rfl⟩
     ·have:i=m.length:=by omega
      subst this
      rw [List.take_length] at hb
      simp -dsimp (disch:=(repeat first | rw [nxn] | rw [nxp]);try omega) only [go_sem,c4,g23,g24,g25,g5']
      exact ⟨trivial,trivial,e5,w,rfl,by rw [e1];exact hb⟩
    ·simp -dsimp (disch:=(repeat first | rw [nxn] | rw [nxp]);try omega) only [go_sem]
     exact ⟨trivial,f24,⟨_,rfl,hp2⟩,trivial,0,_,rfl,rfl,by simpa using hb4',Nat.zero_le _,rfl⟩
    ·rintro ex ⟨tt,g5,d⟩ ⟨rfl,rfl,e5,w,g5',hb⟩
     dsimp only at e5 g5' hb
     have tx:=hb.text (d:=9) Tryz.underlying87 Tryz.underlying5 Tryz.underlying9 hby
     simp -dsimp (disch:=(repeat first | rw [nxn] | rw [nxp]);try omega) only [go_sem,g5',tx]
     exact ⟨by first | trivial | rfl,hfr12.trans e5⟩
 ·rw [recP_no hm]
  have c1:¬((mayP l:Nat):Int)=0:=by omega
  simp -dsimp (disch:=(repeat first | rw [nxn] | rw [nxp]);try omega) only [go_sem,c1]
  exact ⟨by first | trivial | rfl,f1⟩
end
theorem svT {v:AV} (hv:v=.nilptr∨∃id,v=.ptr id 0):sameAV 20 (.agg [v]) (.agg [v])=true:=by
 rcases hv with rfl | ⟨id,rfl⟩ <;> simp [sameAV,sameL]
theorem any_pfA (L:KL (List Nat)):(pf L).any badA=L.any (fun p=>decide (p.1=[])):=by
 unfold pf
 rw [List.any_map];rfl
theorem any_pfL (L:KL (List Nat)):(pf L).any badL=L.any (fun p=>decide (512<p.1.length)||decide (65536<p.2.length)):=by
 unfold pf
 rw [List.any_map]
 congr 1
theorem allP_eq (L:KL (List Nat)):allP L=if mayP (pf L)=0 then (allE L,0) else ([],mayP (pf L)):=by
 unfold allP mayP
 rw [any_pfA,any_pfL]
 split
 ·rfl
 ·split <;> rfl
abbrev pE2 (p:Pr):List Nat:=pieceE p.1++pieceE p.2.1
theorem allE_eq (L:KL (List Nat)):allE L=([]++numE 2)++numE (pf L).length++(pf L).flatMap pE2:=by
 unfold allE pf
 rw [List.length_map,List.flatMap_map]
 simp [numE]
section
variable {S : Sums}
theorem allC (hS:To S) {K:Nat→Nat} {h:AH} {tv:AV} {t:Tp} (htv:TpA K h tv t) (hl:t.size≤16000) (hpl:∀p∈ino t,p.1.length<16384∧p.2.length<16384) (ht:(allE (ino t)).length≤1048576) (hby:∀b∈allE (ino t),b<256) :
  RnC Tryz.prog S 30 [.agg [tv]] h fun r h'=>r=.tup [.str (allP (ino t)).1,.int .i64 ((allP (ino t)).2:Nat)]∧Fr h h':=by
 refine RnC.enter' Tryz.f30 _ 42 [.tmp 2,.tmp 3] (hS.no _ _ _ (by simp)) bd30 Tryz.func30 rfl rfl rfl ?_
 have otv:=htv.one.1
 have om:=otv
 unfold oneA at om
 simp -dsimp only [go_sem,otv,om]
 generalize hg:(h.new (.cells [tv] true false))=g
 have ng:g.nx=h.nx+1:=by rw [←hg];rfl
 have fg:Fr h g:=by rw [←hg];exact Fr.new _ _
 have c0:g.get h.nx=some (.cells [tv] true false):=by rw [←hg];exact AH.get_new_eq rfl
 refine syDraw.keep (fun j=>j=h.nx) (by kernel_rfl) (by kernel_rfl) ?_
 have fx:Fr g { tr:=g.tr,nx:=g.nx+5 }:=(Fr.refl g).more _ (by omega)
 have sT:=svT htv.shape
 simp -dsimp only [go_sem,c0,otv,om,sT,true_and,implies_true,svi,svb,svs]
 refine callK_of (sizeC hS.toTb ((htv.fr fg).fr fx)) ?_
 rintro w1 g1 ⟨rfl,f1⟩
 refine ⟨fun j hj=>by subst hj;exact f1.get _ (by show h.nx<g.nx+5;omega),?_⟩
 try simp -dsimp only [go_sem,otv,om,true_and,implies_true,svi,svb,svs]
 refine callK_of (rangeC hS.toTb (((htv.fr fg).fr fx).fr f1) rfl (by omega)) ?_
 rintro w2 g2 ⟨hp2,f2⟩
 have f12:=((fg.trans fx).trans f1).trans f2
 refine ⟨fun j hj=>by subst hj;exact f2.get _ (by have:=f1.nx;have:g.nx+5≤g1.nx:=this;omega),?_⟩
 have lm0:(pf (ino t)).length=t.size:=by rw [Tp.size_eq];simp [pf]
 have hmp:∀p∈pf (ino t),p.1.length<16384∧p.2.1.length<16384:=fun p hp=>by
  unfold pf at hp
  obtain ⟨q,hq,rfl⟩:=List.mem_map.1 hp
  exact hpl q hq
 have e1:=allE_eq (ino t)
 have e2:=allP_eq (ino t)
 generalize pf (ino t)=m at hp2 lm0 hmp e1 e2
 generalize allE (ino t)=E at e1 e2 ht hby
 have hml:m.length≤16000:=by omega
 obtain ⟨lm,sm,om2⟩:=hp2.ln
 have cvm:=fun h=>cv64 h m.length (by omega)
 rw [e2]
 rcases psShape hp2 with rfl | ⟨i5,o5,n5',c5,rfl⟩
 all_goals
  try simp -dsimp only [go_sem,om2,true_and,implies_true,svi,svb,svs]
  refine callK_of (mayC hS.toTq hp2 (by omega)) ?_
  rintro w3 g3 ⟨rfl,f3⟩
  by_cases hm:mayP m=0
  ·rw [if_pos hm]
   have c1:((mayP m:Nat):Int)=0:=by omega
   try simp -dsimp only [go_sem,c1,om2]
   refine callK_of (numC hS.toTw (n:=2) (l:=[]) (.inl ⟨rfl,rfl⟩) (by simp) (by omega)) ?_
   rintro w3 g4 ⟨hb3,f4⟩
   have o3:=hb3.one
   try simp -dsimp (disch:=(repeat first | rw [nxn] | rw [nxp]);try omega) only [go_sem,lm,cvm,om2,o3]
   refine callK_of (numC hS.toTw (n:=m.length) hb3.bs (by simp [numE]) (by omega)) ?_
   rintro w4 g5 ⟨hb4,f5⟩
   have o4:=hb4.one
   have hb4':=hb4.bs
   have f35:=f3.trans (f4.trans f5)
   rcases (bsSh hb4') with rfl | ⟨i6,o6,n6,z6,c6,rfl⟩
   all_goals
    try simp -dsimp (disch:=(repeat first | rw [nxn] | rw [nxp]);try omega) only [go_sem,lm,om2,o4]
    refine loopK_of (RnL.rounds (Q:=fun ex u=>ex=.exit 0∧u.d=[]∧Fr g2 u.h∧∃w,u.t.get 6=some w∧Bs u.h w E)
     (fun k u=>u.d=[]∧Fr g2 u.h∧(∃w2',u.t.get 23=some w2'∧Ps g2 w2' m)∧u.t.get 24=some (.int .i64 (m.length:Nat))∧∃(i:Nat) (w:AV),u.t.get 25=some (.int .i64 (i:Nat))∧u.t.get 6=some w∧Bs u.h w (([]++numE 2)++numE m.length++(m.take i).flatMap pE2)∧i≤m.length∧k=m.length-i) ?_ m.length ?_) ?_
    ·rintro k ⟨tt,g5,d⟩ ⟨e9,e5,⟨w2',g23,hp2'⟩,g24,i,w,g25,g6',hb,hi,rfl⟩
     dsimp only at e9 e5 g23 g24 g25 g6' hb
     subst e9
     by_cases c4:(i:Int)<(m.length:Nat)
     ·have hil:i<m.length:=by omega
      obtain ⟨p,hp⟩:∃p,m[i]? = some p:=⟨_,List.getElem?_eq_getElem hil⟩
      have hpl':=hmp p (List.mem_iff_getElem?.2 ⟨i,hp⟩)
      obtain ⟨id,off,c,cs,o,tx,rfl,hgi,hidl,hle,hx,_⟩:=Ps.at hp2' hp
      have hgx:=(e5.get id hidl).trans hgi
      have ow:=(bsOne hb).1
      have tot:(([]++numE 2)++numE m.length++(m.take (i+1)).flatMap pE2).length≤1048576:=by
       rw [e1] at ht
       have:=flat_le pE2 m (i+1)
       simp only [List.length_append] at ht ⊢
       omega
      have etk:=flat_take pE2 hp
      rw [etk] at tot
      have tot2:=tot
      simp only [List.length_append] at tot2
      have topl:(([]++numE 2)++numE m.length++(m.take i).flatMap pE2).length≤1048576:=by
       simp only [List.length_append];omega
      have pl1:=piece_len p.1
      simp -dsimp (disch:=(repeat first | rw [nxn] | rw [nxp]);try omega) only [go_sem,c4,g23,g24,g25,g6',hil,hgx,hle,hx,ow]
      generalize hg4:((g5.new (.cells [.str [],.str [],.bool false] true false)).put g5.nx (.cells [.str p.1,.str p.2.1,.bool p.2.2] true false))=g4'
      have n4:g4'.nx=g5.nx+1:=by rw [←hg4];rfl
      have f4':Fr g5 g4':=by rw [←hg4];exact (Fr.new _ _).put _ (Nat.le_refl _)
      have c4':g4'.get g5.nx=some (.cells [.str p.1,.str p.2.1,.bool p.2.2] true false):=by rw [←hg4];exact AH.get_put_eq rfl
      refine syDraw.keep (fun j=>j=g5.nx) (by kernel_rfl) (by kernel_rfl) ?_
      have fx:Fr g4' { tr:=g4'.tr,nx:=g4'.nx+8 }:=(Fr.refl g4').more _ (by omega)
      simp -dsimp (disch:=(repeat first | rw [nxn] | rw [nxp]);try omega) only [go_sem,c4',g6',ow,true_and,implies_true,svi,svb,svs]
      refine callK_of (spiC hS.toTw (s:=p.1) ((hb.fr f4').fr fx) (Nat.le_trans topl (by decide)) hpl'.1) ?_
      rintro w7 g7 ⟨hb7,f7⟩
      have o7:=hb7.one
      have c7':g7.get g5.nx=_:=(f7.get _ (by show g5.nx<g4'.nx+8;omega)).trans c4'
      refine ⟨fun j hj=>by subst hj;exact f7.get _ (by show g5.nx<g4'.nx+8;omega),?_⟩
      rcases hb7.shape with rfl | ⟨i8,n8,c8,rfl⟩
      all_goals
       simp -dsimp (disch:=(repeat first | rw [nxn] | rw [nxp]);try omega) only [go_sem,c7',o7,true_and,implies_true,svi,svb,svs]
       refine callK_of (spiC hS.toTw (s:=p.2.1) hb7.bs (by rw [List.length_append];omega) hpl'.2) ?_
       rintro w8 g8 ⟨hb8,f8⟩
       have o8:=hb8.one
       refine ⟨fun j hj=>by subst hj;exact f8.get _ (by have:=f7.nx;have h9:g4'.nx+8≤g7.nx:=this;omega),?_⟩
       have hb8':=hb8.bs
       have e8:(([]++numE 2)++numE m.length++(m.take i).flatMap pE2)++pieceE p.1++pieceE p.2.1=([]++numE 2)++numE m.length++((m.take i).flatMap pE2++pE2 p):=by simp [pE2]
       rw [e8] at hb8'
       obtain ⟨n8,hn8,l8⟩:∃n8:Nat,n8≤1048576∧∀g,evLen Tryz.prog g #[87] w8=some (.int .i64 (n8:Nat)):=⟨_,tot,bsLn hb8'⟩
       have c9:¬(1048576:Int)<((n8:Nat):Int):=by omega
       have ff:=(((f4'.trans fx).trans f7).trans f8)
       rw [←etk] at hb8'
       rcases hb8.shape with rfl | ⟨i9,n9,c9',rfl⟩
       all_goals
        simp -dsimp (disch:=(repeat first | rw [nxn] | rw [nxp]);try omega) only [go_sem,l8,o8,c9,g23,g24,g25]
        exact ⟨m.length-(i+1),by omega,trivial,e5.trans ff,⟨_,rfl,hp2'⟩,trivial,i+1,_,rfl,rfl,hb8',by omega,rfl⟩
     ·have:i=m.length:=by omega
      subst this
      rw [List.take_length] at hb
      simp -dsimp only [go_sem,c4,g23,g24,g25,g6']
      exact ⟨trivial,trivial,e5,w,rfl,by rw [e1];exact hb⟩
    ·simp -dsimp only [go_sem]
     exact ⟨trivial,f35,⟨_,rfl,hp2⟩,trivial,0,_,rfl,rfl,by simpa using hb4',Nat.zero_le _,rfl⟩
    ·rintro ex ⟨tt,g5,d⟩ ⟨rfl,rfl,e5,w,g6',hb⟩
     dsimp only at e5 g6' hb
     have tx:=hb.text (d:=9) Tryz.underlying87 Tryz.underlying5 Tryz.underlying9 hby
     simp -dsimp only [go_sem,g6',tx]
     exact ⟨by first | trivial | rfl,f12.trans e5⟩
  ·rw [if_neg hm]
   have c1:¬((mayP m:Nat):Int)=0:=by omega
   simp -dsimp only [go_sem,c1]
   exact ⟨by first | trivial | rfl,f12.trans f3⟩
end
theorem cvSB (h:AH) (s:List Nat):evConvert Tryz.prog h 9 87 (.str s)=some (.val (.sl h.nx 0 s.length 1 none) (h.new (.cells (byC s) true true))):=by
 simp [evConvert,newCells,Tryz.underlying9,Tryz.underlying87,Tryz.underlying5,byC]
theorem bsCv (h:AH) (s:List Nat):Bs (h.new (.cells (byC s) true true)) (.sl h.nx 0 s.length 1 none) s :=
 .inr ⟨h.nx,0,none,byC s,true,true,rfl,AH.get_new_eq rfl,Nat.lt_succ_self _,by rw [byC_length];omega,fun k hk=>(by cases hk),by rw [List.drop_zero,←byC_length s,List.take_length]⟩
theorem bldP0:evBuild Tryz.prog 58 []=some (.agg [.str [],.str [],.bool false]):=by kernel_rfl
theorem pairsF_at {kind n:Nat} {s:Rd} {acc:KL (List Nat×Bool)} (he:s.e=0):pairsF kind (n+1) s acc=pairsF kind n (one kind s).2.2 (acc++[(one kind s).2.1]):=by
 rw [pairsF,if_neg (fun hh=>hh he)]
theorem pairsF_err {kind n:Nat} {s:Rd} {acc:KL (List Nat×Bool)} (he:s.e≠0):pairsF kind n s acc=(acc,s):=by
 cases n with
 | zero=>rfl
 | succ n=>rw [pairsF,if_pos he]
theorem oneA1 {kind:Nat} {s:Rd} (hk:kind=1) (hx:s.num.1=0):one kind s=(0,(s.num.2.piece.1,[],true),s.num.2.piece.2):=by
 subst hk
 unfold one
 simp [hx]
theorem oneB1 {kind:Nat} {s:Rd} (hk:kind=1) (hx:s.num.1≠0):one kind s=(s.num.1,(s.num.2.piece.1,s.num.2.piece.2.piece.1,false),s.num.2.piece.2.piece.2):=by
 subst hk
 unfold one
 simp [hx]
theorem oneC1 {kind:Nat} {s:Rd} (hk:kind≠1):one kind s=(1,(s.piece.1,s.piece.2.piece.1,false),s.piece.2.piece.2):=by
 unfold one
 simp [hk]
section
variable {S : Sums}
theorem readC (hS:To S) {h:AH} {s:List Nat} (hs:s.length≤900000) (hby:∀b∈s,b<256) :
  RnC Tryz.prog S 62 [.str s] h fun r h'=>Fr h h'∧((readP s=none∧r=.tup [.nilsl,.bool false,.int .i64 4])∨∃l a w,readP s=some (l,a)∧r=.tup [w,.bool a,.int .i64 0]∧Ps h' w l):=by
 refine RnC.enter' Tryz.f62 _ 62 [.tmp 2,.tmp 3,.tmp 4] (hS.no _ _ _ (by simp)) bd62 Tryz.func62 rfl rfl rfl ?_
 have ls:∀g,evLen Tryz.prog g #[9] (.str s)=some (.int .i64 ((s.length:Nat):Int)):=fun g=>by simp [evLen,Tryz.underlying9]
 simp -dsimp (disch:=(repeat first | rw [nxn] | rw [nxp]);try omega) only [go_sem,cvSB]
 refine callK_of (newR hS.toTr2 (bsCv h s) hby (by omega)) ?_
 rintro w g ⟨R,p,rfl,hr,hR0',hp0',f1'⟩
 have hR0:h.nx≤R:=Nat.le_trans (Nat.le_succ _) hR0'
 have hp0:h.nx≤p:=Nat.le_trans (Nat.le_succ _) hp0'
 have f1:Fr h g:=(Fr.new _ _).trans f1'
 have hRn:=hr.Rn
 have hpn:=hr.pn
 clear f1' hR0' hp0'
 try simp -dsimp (disch:=(repeat first | rw [nxn] | rw [nxp]);try omega) only [go_sem]
 refine callK_of (rnumC hS.toTr2 hr) ?_
 rintro w g2 ⟨rfl,hr2,x2⟩
 try simp -dsimp (disch:=(repeat first | rw [nxn] | rw [nxp]);try omega) only [go_sem,ls]
 refine callK_of (rcountC hS.toTr2 hr2 (by omega)) ?_
 rintro w g3 ⟨rfl,hr3,x3⟩
 have x13:=x2.trans x3
 have hrd:readP s=(let p:=pairsF (Rd.mk s 0).num.1 ((Rd.mk s 0).num.2.count s.length).1 ((Rd.mk s 0).num.2.count s.length).2 [];if p.2.e≠0∨p.2.b≠[]∨((Rd.mk s 0).num.1≠1∧(Rd.mk s 0).num.1≠2) then none else some (p.1,decide ((Rd.mk s 0).num.1=2))):=rfl
 have hcle:((Rd.mk s 0).num.2.count s.length).1≤s.length:=by
  unfold Rd.count
  split
  ·exact Nat.zero_le _
  ·split
   ·exact Nat.zero_le _
   ·split
    ·exact Nat.zero_le _
    ·omega
 rw [hrd]
 clear hrd
 generalize ((Rd.mk s 0).num.2.count s.length).2=r0 at hr3 ⊢
 generalize ((Rd.mk s 0).num.2.count s.length).1=c0 at hcle ⊢
 generalize (Rd.mk s 0).num.1=kind
 try simp -dsimp (disch:=(repeat first | rw [nxn] | rw [nxp]);try omega) only [go_sem]
 refine loopK_of (RnL.rounds (Q:=fun ex u=>ex=.exit 0∧u.d=[]∧u.t.get 5=some (.ptr R 0)∧u.t.get 6=some (.int .u64 (kind:Nat))∧Fr h u.h∧RdA R p u.h (pairsF kind c0 r0 []).2∧∃w,u.t.get 7=some w∧Ps u.h w (pairsF kind c0 r0 []).1)
  (fun m u=>u.d=[]∧u.t.get 5=some (.ptr R 0)∧u.t.get 6=some (.int .u64 (kind:Nat))∧g.nx≤u.h.nx∧Fx p g u.h∧∃(n:Nat) (r:Rd) (acc:KL (List Nat×Bool)) (w:AV),u.t.get 8=some (.int .i64 (n:Nat))∧RdA R p u.h r∧u.t.get 7=some w∧Ez 3 g.nx u.h w (acc.flatMap pc)∧pairsF kind c0 r0 []=pairsF kind n r acc∧acc.length+n≤900000∧m=n) ?_ c0 ?_) ?_
 ·rintro m ⟨tt,gx,d⟩ ⟨e9,g5,g6,hnx,fx,n,r,acc,w,g8,hrr,g7,hz,hpf,han,rfl⟩
  dsimp only at e9 g5 g6 hnx fx g8 hrr g7 hz
  subst e9
  have fhx:Fr h gx:=fx.fr f1 hp0
  have ow:=(Ez.one hz).2
  cases m with
  | zero =>
   have c1:¬(0:Int)<((0:Nat):Int):=by omega
   have c2:¬(0:Int)<0:=by omega
   have hpf':pairsF kind c0 r0 []=(acc,r):=hpf
   rw [hpf']
   simp -dsimp (disch:=(repeat first | rw [nxn] | rw [nxp]);try omega) only [go_sem,g5,g6,g7,g8,c1,c2]
   exact ⟨trivial,trivial,trivial,trivial,fhx,hrr,w,rfl,Ps.of hz⟩
  | succ n =>
   have c1:(0:Int)<((n+1:Nat):Int):=by omega
   have c1':(0:Int)<((n:Nat):Int)+1:=by omega
   have cn:((n+1:Nat):Int)-1=((n:Nat):Int):=by omega
   simp -dsimp (disch:=(repeat first | rw [nxn] | rw [nxp]);try omega) only [go_sem,g5,g6,g7,g8,c1,c1']
   refine callK_of (rerrC hS.toTr2 hrr) ?_
   rintro w1 g1 ⟨rfl,rfl⟩
   by_cases he:r.e=0
   ·have c2:((r.e:Nat):Int)=0:=by omega
    rw [pairsF_at he] at hpf
    generalize hg4:((g1.new (.cells [.str [],.str [],.bool false] true false)).put g1.nx (.cells [.str [],.str [],.bool false] true false))=g4'
    have n4:g4'.nx=g1.nx+1:=by rw [←hg4];rfl
    have f4':Fr g1 g4':=by rw [←hg4];exact (Fr.new _ _).put _ (Nat.le_refl _)
    have c4':g4'.get g1.nx=some (.cells [.str [],.str [],.bool false] true false):=by rw [←hg4];exact AH.get_put_eq rfl
    have hr4:=hrr.fr f4'
    have x4:Fx p g1 g4':=Fx.of f4'
    have qp:p<g1.nx:=by omega
    -- the end of a round
    have fin:∀(ge:AH) (N:Nat) (rs:Rd) (k x:List Nat) (b:Bool),ge.nx=N→Fx p g1 ge→RdA R p ge rs→ge.get g1.nx=some (.cells [.str k,.str x,.bool b] true false)→g1.nx<ge.nx →
      ∃w' h',evAppend Tryz.prog (ge.new (.cells [.str k,.str x,.bool b] true false)) #[22,22] w (.sl N 0 1 3 (some 1))=some (.val w' h')∧oneA w'=true∧g.nx≤h'.nx∧Fx p g h'∧RdA R p h' rs∧Ez 3 g.nx h' w' ((acc++[(k,(x,b))]).flatMap pc):=fun ge N rs k x b hN xe hre hce hlt=>by
     subst hN
     have hze:=ezFx hz (by omega) xe
     have fge:Fr { tr:=(ge.new (.cells [.str k,.str x,.bool b] true false)).tr,nx:=g.nx } (ge.new (.cells [.str k,.str x,.bool b] true false)):=⟨by show g.nx≤ge.nx+1;omega,fun _ _=>rfl⟩
     obtain ⟨w',h',ha,hf',hz',ow'⟩:=appP (h0:={ tr:=(ge.new (.cells [.str k,.str x,.bool b] true false)).tr,nx:=g.nx }) (h:=ge.new (.cells [.str k,.str x,.bool b] true false)) (v:=w) (l:=acc) (m:=[(k,(x,b))]) (hze.fr (Fr.new _ _)) (ps1 (AH.get_new_eq rfl) (Nat.lt_succ_self _)) fge (by simp;omega)
     have ho:∀j,j<g.nx→h'.get j=ge.get j:=fun j hj=>(hf'.get j hj).trans (AH.get_new_ne (by omega))
     exact ⟨w',h',ha,ow',hf'.nx,⟨hf'.nx,fun j hj hne=>(ho j hj).trans ((xe.2 j (by omega) hne).trans (fx.2 j hj hne))⟩,hre.lo hRn hpn hf'.nx ho,hz'⟩
    by_cases hk:kind=1
    ·have ck:((kind:Nat):Int)=1:=by omega
     simp -dsimp (disch:=(repeat first | rw [nxn] | rw [nxp]);try omega) only [go_sem,c2,bldP0,ck,g5,g6]
     rw [hg4]
     refine callK_of (rnumC hS.toTr2 hr4) ?_
     rintro w5 g5' ⟨rfl,hr5,x5⟩
     have c5:g5'.get g1.nx=_:=(x5.2 _ (by omega) (by omega)).trans c4'
     by_cases hx0:r.num.1=0
     ·have hone:=oneA1 hk hx0
      rw [hone] at hpf
      have c6:((r.num.1:Nat):Int)=0:=by omega
      simp -dsimp (disch:=(repeat first | rw [nxn] | rw [nxp]);try omega) only [go_sem,c5,c6,g5]
      generalize hg6:(g5'.put g1.nx (.cells [.str [],.str [],.bool true] true false))=g6'
      have c6':g6'.get g1.nx=some (.cells [.str [],.str [],.bool true] true false):=by rw [←hg6];exact AH.get_put_eq rfl
      have n6:g6'.nx=g5'.nx:=by rw [←hg6];rfl
      have n5:=x5.1
      have x6:Fx p g1 g6':=by rw [←hg6];exact (x4.trans x5).put2 (Nat.le_refl _) _
      have hr6:RdA R p g6' r.num.2:=hr5.lo (n0:=g1.nx) (by omega) (by omega) (by omega) fun j hj=>by rw [←hg6];exact AH.get_put_ne (by omega)
      refine callK_of (rpieceC hS.toTr2 hr6) ?_
      rintro w7 g7' ⟨rfl,hr7,x7⟩
      have n7:=x7.1
      have c7':g7'.get g1.nx=_:=(x7.2 _ (by omega) (by omega)).trans c6'
      obtain ⟨w',h',ha,ow',q1,q2,q3,q4⟩:=fin (g7'.put g1.nx (.cells [.str r.num.2.piece.1,.str [],.bool true] true false)) g7'.nx r.num.2.piece.2 r.num.2.piece.1 [] true rfl ((x6.trans x7).put2 (Nat.le_refl _) _) (hr7.lo (n0:=g1.nx) (by omega) (by omega) (by show g1.nx≤g7'.nx;omega) fun j hj=>AH.get_put_ne (by omega)) (AH.get_put_eq rfl) (by show g1.nx<g7'.nx;omega)
      rcases ezShape q4 with rfl | ⟨ii9,nn9,cc9,rfl⟩
      all_goals
       simp -dsimp (disch:=(repeat first | rw [nxn] | rw [nxp]);try omega) only [go_sem,c7',g7,g8,ow,ha,cn,g5,g6]
       exact ⟨n,Nat.lt_succ_self _,trivial,trivial,trivial,q1,q2,n,_,_,_,rfl,q3,rfl,q4,hpf,by simp;omega,rfl⟩
     ·have hone:=oneB1 hk hx0
      rw [hone] at hpf
      have c6:¬((r.num.1:Nat):Int)=0:=by omega
      simp -dsimp (disch:=(repeat first | rw [nxn] | rw [nxp]);try omega) only [go_sem,c5,c6,g5]
      generalize hg6:(g5'.put g1.nx (.cells [.str [],.str [],.bool false] true false))=g6'
      have c6':g6'.get g1.nx=some (.cells [.str [],.str [],.bool false] true false):=by rw [←hg6];exact AH.get_put_eq rfl
      have n6:g6'.nx=g5'.nx:=by rw [←hg6];rfl
      have n5:=x5.1
      have x6:Fx p g1 g6':=by rw [←hg6];exact (x4.trans x5).put2 (Nat.le_refl _) _
      have hr6:RdA R p g6' r.num.2:=hr5.lo (n0:=g1.nx) (by omega) (by omega) (by omega) fun j hj=>by rw [←hg6];exact AH.get_put_ne (by omega)
      refine callK_of (rpieceC hS.toTr2 hr6) ?_
      rintro w7 g7' ⟨rfl,hr7,x7⟩
      have n7:=x7.1
      have c7':g7'.get g1.nx=_:=(x7.2 _ (by omega) (by omega)).trans c6'
      simp -dsimp (disch:=(repeat first | rw [nxn] | rw [nxp]);try omega) only [go_sem,c7',g5]
      generalize hg8:(g7'.put g1.nx (.cells [.str r.num.2.piece.1,.str [],.bool false] true false))=g8'
      have c8':g8'.get g1.nx=some (.cells [.str r.num.2.piece.1,.str [],.bool false] true false):=by rw [←hg8];exact AH.get_put_eq rfl
      have n8:g8'.nx=g7'.nx:=by rw [←hg8];rfl
      have x8:Fx p g1 g8':=by rw [←hg8];exact (x6.trans x7).put2 (Nat.le_refl _) _
      have hr8:RdA R p g8' r.num.2.piece.2:=hr7.lo (n0:=g1.nx) (by omega) (by omega) (by omega) fun j hj=>by rw [←hg8];exact AH.get_put_ne (by omega)
      refine callK_of (rpieceC hS.toTr2 hr8) ?_
      rintro w9 g9' ⟨rfl,hr9,x9⟩
      have n9:=x9.1
      have c9':g9'.get g1.nx=_:=(x9.2 _ (by omega) (by omega)).trans c8'
      obtain ⟨w',h',ha,ow',q1,q2,q3,q4⟩:=fin (g9'.put g1.nx (.cells [.str r.num.2.piece.1,.str r.num.2.piece.2.piece.1,.bool false] true false)) g9'.nx r.num.2.piece.2.piece.2 r.num.2.piece.1 r.num.2.piece.2.piece.1 false rfl ((x8.trans x9).put2 (Nat.le_refl _) _) (hr9.lo (n0:=g1.nx) (by omega) (by omega) (by show g1.nx≤g9'.nx;omega) fun j hj=>AH.get_put_ne (by omega)) (AH.get_put_eq rfl) (by show g1.nx<g9'.nx;omega)
      rcases ezShape q4 with rfl | ⟨ii9,nn9,cc9,rfl⟩
      all_goals
       simp -dsimp (disch:=(repeat first | rw [nxn] | rw [nxp]);try omega) only [go_sem,c9',g7,g8,ow,ha,cn,g5,g6]
       exact ⟨n,Nat.lt_succ_self _,trivial,trivial,trivial,q1,q2,n,_,_,_,rfl,q3,rfl,q4,hpf,by simp;omega,rfl⟩
    ·have ck:¬((kind:Nat):Int)=1:=by omega
     have hone:=oneC1 (s:=r) hk
     rw [hone] at hpf
     simp -dsimp (disch:=(repeat first | rw [nxn] | rw [nxp]);try omega) only [go_sem,c2,bldP0,ck,g5,g6]
     rw [hg4]
     refine callK_of (rpieceC hS.toTr2 hr4) ?_
     rintro w7 g7' ⟨rfl,hr7,x7⟩
     have n7:=x7.1
     have c7':g7'.get g1.nx=_:=(x7.2 _ (by omega) (by omega)).trans c4'
     simp -dsimp (disch:=(repeat first | rw [nxn] | rw [nxp]);try omega) only [go_sem,c7',g5]
     generalize hg8:(g7'.put g1.nx (.cells [.str r.piece.1,.str [],.bool false] true false))=g8'
     have c8':g8'.get g1.nx=some (.cells [.str r.piece.1,.str [],.bool false] true false):=by rw [←hg8];exact AH.get_put_eq rfl
     have n8:g8'.nx=g7'.nx:=by rw [←hg8];rfl
     have x8:Fx p g1 g8':=by rw [←hg8];exact (x4.trans x7).put2 (Nat.le_refl _) _
     have hr8:RdA R p g8' r.piece.2:=hr7.lo (n0:=g1.nx) (by omega) (by omega) (by omega) fun j hj=>by rw [←hg8];exact AH.get_put_ne (by omega)
     refine callK_of (rpieceC hS.toTr2 hr8) ?_
     rintro w9 g9' ⟨rfl,hr9,x9⟩
     have n9:=x9.1
     have c9':g9'.get g1.nx=_:=(x9.2 _ (by omega) (by omega)).trans c8'
     obtain ⟨w',h',ha,ow',q1,q2,q3,q4⟩:=fin (g9'.put g1.nx (.cells [.str r.piece.1,.str r.piece.2.piece.1,.bool false] true false)) g9'.nx r.piece.2.piece.2 r.piece.1 r.piece.2.piece.1 false rfl ((x8.trans x9).put2 (Nat.le_refl _) _) (hr9.lo (n0:=g1.nx) (by omega) (by omega) (by show g1.nx≤g9'.nx;omega) fun j hj=>AH.get_put_ne (by omega)) (AH.get_put_eq rfl) (by show g1.nx<g9'.nx;omega)
     rcases ezShape q4 with rfl | ⟨ii9,nn9,cc9,rfl⟩
     all_goals
      simp -dsimp (disch:=(repeat first | rw [nxn] | rw [nxp]);try omega) only [go_sem,c9',g7,g8,ow,ha,cn,g5,g6]
      exact ⟨n,Nat.lt_succ_self _,trivial,trivial,trivial,q1,q2,n,_,_,_,rfl,q3,rfl,q4,hpf,by simp;omega,rfl⟩
   ·have c2:¬((r.e:Nat):Int)=0:=by omega
    have hpf':pairsF kind c0 r0 []=(acc,r):=hpf.trans (pairsF_err he)
    rw [hpf']
    simp -dsimp (disch:=(repeat first | rw [nxn] | rw [nxp]);try omega) only [go_sem,g5,g6,g7,g8,c2]
    exact ⟨trivial,trivial,trivial,trivial,fhx,hrr,w,rfl,Ps.of hz⟩
 ·simp -dsimp (disch:=(repeat first | rw [nxn] | rw [nxp]);try omega) only [go_sem]
  exact ⟨trivial,trivial,trivial,x13.1,x13,c0,r0,[],.nilsl,rfl,hr3,rfl,.inl ⟨rfl,rfl⟩,rfl,by simp;omega,rfl⟩
 ·rintro ex ⟨tt,gx,d⟩ ⟨rfl,rfl,g5,g6,fh,hrr,w,g7,hw⟩
  dsimp only at g5 g6 fh hrr g7 hw
  generalize pairsF kind c0 r0 []=q at hrr hw ⊢
  have ow:=hw.ln.2.2
  simp -dsimp (disch:=(repeat first | rw [nxn] | rw [nxp]);try omega) only [go_sem,g5]
  refine callK_of (rendC hS.toTr2 hrr) ?_
  rintro w1 g1 ⟨⟨k,rfl,hk⟩,rfl⟩
  by_cases h0:k=0
  ·have c1:((k:Nat):Int)=0:=by omega
   obtain ⟨h1,h2⟩:=hk.1 h0
   by_cases hk1:kind=1
   ·have ck:((kind:Nat):Int)=1:=by omega
    have ck2:¬((kind:Nat):Int)=2:=by omega
    simp -dsimp (disch:=(repeat first | rw [nxn] | rw [nxp]);try omega) only [go_sem,c1,g6,g7,ck,ck2,ow]
    refine ⟨fh,.inr ⟨q.1,false,w,?_,(by first | trivial | rfl),hw⟩⟩
    simp [h1,h2,hk1]
   ·have ck:¬((kind:Nat):Int)=1:=by omega
    by_cases hk2:kind=2
    ·have ck2:((kind:Nat):Int)=2:=by omega
     simp -dsimp (disch:=(repeat first | rw [nxn] | rw [nxp]);try omega) only [go_sem,c1,g6,g7,ck,ck2,ow]
     refine ⟨fh,.inr ⟨q.1,true,w,?_,(by first | trivial | rfl),hw⟩⟩
     simp [h1,h2,hk2]
    ·have ck2:¬((kind:Nat):Int)=2:=by omega
     simp -dsimp (disch:=(repeat first | rw [nxn] | rw [nxp]);try omega) only [go_sem,c1,g6,g7,ck,ck2,ow]
     refine ⟨fh,.inl ⟨?_,(by first | trivial | rfl)⟩⟩
     simp [h1,h2,hk1,hk2]
  ·have c1:¬((k:Nat):Int)=0:=by omega
   simp -dsimp (disch:=(repeat first | rw [nxn] | rw [nxp]);try omega) only [go_sem,c1,g6,g7,ow]
   refine ⟨fh,.inl ⟨?_,(by first | trivial | rfl)⟩⟩
   have:q.2.e≠0∨q.2.b≠[]:=by
    by_cases h1:q.2.e=0
    ·exact .inr fun h2=>h0 (hk.2 ⟨h1,h2⟩)
    ·exact .inl h1
   rcases this with h1 | h1 <;> simp [h1]
end
theorem bldT0:evBuild Tryz.prog 36 []=some (.agg [.nilptr]):=by kernel_rfl
theorem tellP_no {L:KL (List Nat)} {s:List Nat} (h:readP s=none):tellP L s=([],4):=by unfold tellP;rw [h]
theorem tellP_all {L:KL (List Nat)} {s:List Nat} {l:KL (List Nat×Bool)} (h:readP s=some (l,true)):tellP L s=if allP (ofP l)=(s,0) then (ofP l,0) else ([],4):=by unfold tellP;rw [h]
theorem tellP_rec {L:KL (List Nat)} {s:List Nat} {l:KL (List Nat×Bool)} (h:readP s=some (l,false)):tellP L s=if recP l=(s,0) then (doneP L l,0) else ([],4):=by unfold tellP;rw [h]
structure Fit (s:List Nat):Prop where
 len:s.length≤900000
 by256:∀b∈s,b<256
 r:∀l,readP s=some (l,false)→l.length≤4096∧(∀p∈l,p.1.length<16384∧p.2.1.length<16384)∧(recE (lastD l)).length≤1048576∧∀b∈recE (lastD l),b<256
 a:∀l,readP s=some (l,true)→l.length≤16000∧(∀p∈l,p.1.length<16384∧p.2.1.length<16384)∧(∀p∈ofP l,p.1.length<16384∧p.2.length<16384)∧(allE (ofP l)).length≤1048576∧∀b∈allE (ofP l),b<256
theorem ofP_len (l:KL (List Nat×Bool)):(ofP l).length≤l.length:=by
 have h:=ofD_len l
 rw [ofD_eq] at h
 simpa [pf] using h
section
variable {S : Sums}
theorem tellC (hS:To S) {K:Nat→Nat} {h:AH} {tv:AV} {t:Tp} {s:List Nat} (htv:TpA K h tv t) (hrt:riseP (ino t)) (hts:t.size≤100000) (fit:Fit s) (top:∀j,h.nx≤j→K j=0) :
  RnC Tryz.prog S 26 [.agg [tv],.str s] h fun r h'=>(∃a t',r=.tup [.agg [a],.int .i64 ((tellP (ino t) s).2:Nat)]∧TpA K h' a t'∧ino t'=(tellP (ino t) s).1∧(Hp t→Hp t'))∧Fr h h':=by
 refine RnC.enter' Tryz.f26 _ 56 [.cell 4 36,.tmp 5] (hS.no _ _ _ (by simp)) bd26 Tryz.func26 rfl rfl rfl ?_
 have otv:=htv.one.1
 have om:=otv
 unfold oneA at om
 simp -dsimp (disch:=(repeat first | rw [nxn] | rw [nxp]);try omega) only [go_sem,otv,om]
 generalize hg:((h.new (.cells [tv] true false)).new (.cells [.nilptr] true false))=g
 have ng:g.nx=h.nx+2:=by rw [←hg];rfl
 have fg:Fr h g:=by rw [←hg];exact (Fr.new _ _).news _
 have c0:g.get h.nx=some (.cells [tv] true false):=by rw [←hg];exact (AH.get_new_ne (by simp)).trans (AH.get_new_eq rfl)
 have c1:g.get (h.nx+1)=some (.cells [.nilptr] true false):=by rw [←hg];exact AH.get_new_eq rfl
 have ht0:TpA (K2 K h.nx) g tv t:=(htv.col fun j hj hk=>(K2.ne hj).trans hk).fr fg
 refine callK_of (readC hS fit.len fit.by256) ?_
 rintro w g1 ⟨f1,hcase⟩
 have n1:=f1.nx
 have topx:∀j,g.nx≤j→K2 K h.nx j=0:=fun j hj=>(if_neg (by omega)).trans (top j (by omega))
 have fin:∀(gg gk:AH) (a:AV) (t':Tp),Fr g gg→TpA (K2 K h.nx) gg a t'→gk.nx=gg.nx→(∀j,j≠h.nx+1→gk.get j=gg.get j)→TpA K gk a t'∧Fr h gk:=fun gg gk a t' fgg ht hn ho =>
  ⟨(ht.keep (by omega) fun j hj hk=>ho j (K2.zero hk).2.2).col fun j hj hk=>(K2.zero hk).1,by have:=fgg.nx;have:=fg.nx;exact ⟨by omega,fun j hj=>(ho j (by omega)).trans ((fgg.get j (by omega)).trans (fg.get j hj))⟩⟩
 have nilT:∀gg:AH,TpA (K2 K h.nx) gg .nilptr .nil:=fun gg=>rfl
 rcases hcase with ⟨hr,rfl⟩ | ⟨l,al,w,hr,rfl,hw⟩
 ·rw [tellP_no hr]
  have c11:g1.get (h.nx+1)=_:=(f1.get _ (by omega)).trans c1
  obtain ⟨k1,k2⟩:=fin g1 (g1.put (h.nx+1) (.cells [.nilptr] true false)) .nilptr .nil f1 (nilT _) rfl fun j hj=>AH.get_put_ne hj
  simp -dsimp (disch:=(repeat first | rw [nxn] | rw [nxp]);try omega) only [go_sem,c11,bldT0]
  exact ⟨⟨_,_,by first | trivial | rfl,k1,rfl,fun _=>trivial⟩,k2⟩
 ·obtain ⟨lw,sw,ow⟩:=hw.ln
  have c11:g1.get (h.nx+1)=_:=(f1.get _ (by omega)).trans c1
  have c01:g1.get h.nx=_:=(f1.get _ (by omega)).trans c0
  cases al with
  | true =>
   rw [tellP_all hr]
   obtain ⟨fl,fp,fo,fe,fb⟩:=fit.a l hr
   have hol:=ofP_len l
   simp -dsimp (disch:=(repeat first | rw [nxn] | rw [nxp]);try omega) only [go_sem,c11,ow]
   refine callK_of (ofC hS.toTb hw (by omega) (fun p hp=>by have:=(fp p hp).1;omega) (K:=K2 K h.nx) fun j hj=>topx j (by omega)) ?_
   rintro w2 g2 ⟨⟨a,t',rfl,ht',hino,hH⟩,f2⟩
   have n2:=f2.nx
   have hsz:t'.size≤16000:=by rw [Tp.size_eq,hino];omega
   generalize hg3:((g2.new (.cells [.nilptr] true false)).put g2.nx (.cells [a] true false))=g3
   have n3:g3.nx=g2.nx+1:=by rw [←hg3];rfl
   have f3:Fr g2 g3:=by rw [←hg3];exact (Fr.new _ _).put _ (Nat.le_refl _)
   have c3:g3.get g2.nx=some (.cells [a] true false):=by rw [←hg3];exact AH.get_put_eq rfl
   have oa:=ht'.one.1
   have hall:=allC hS (ht'.fr f3) hsz (by rw [hino];exact fo) (by rw [hino];exact fe) (by rw [hino];exact fb)
   rw [hino] at hall
   rcases ht'.shape with hsh | ⟨ia,hsh⟩
   all_goals
    subst hsh
    try simp -dsimp (disch:=(repeat first | rw [nxn] | rw [nxp]);try omega) only [go_sem]
    rw [hg3]
    try simp -dsimp (disch:=(repeat first | rw [nxn] | rw [nxp]);try omega) only [go_sem,c3]
    refine callK_of hall ?_
    rintro w4 g4 ⟨rfl,f4⟩
    have n4:=f4.nx
    have c34:g4.get g2.nx=_:=(f4.get _ (by omega)).trans c3
    have c14:g4.get (h.nx+1)=_:=(f4.get _ (by omega)).trans ((f3.get _ (by omega)).trans ((f2.get _ (by omega)).trans c11))
    have fg4:Fr g g4:=((f1.trans f2).trans f3).trans f4
    by_cases he:(allP (ofP l)).2=0
    ·have ce:(((allP (ofP l)).2:Nat):Int)=0:=by omega
     by_cases hs:(allP (ofP l)).1=s
     ·have hs':decide ((allP (ofP l)).1=s)=true:=decide_eq_true hs
      rw [if_pos (Prod.ext hs he)]
      simp -dsimp (disch:=(repeat first | rw [nxn] | rw [nxp]);try omega) only [go_sem,ce,neSt,hs',c34,c14]
      obtain ⟨k1,k2⟩:=fin g4 (g4.put (h.nx+1) (.cells [_] true false)) _ _ fg4 ((ht'.fr f3).fr f4) rfl fun j hj=>AH.get_put_ne hj
      exact ⟨⟨_,_,by first | trivial | rfl,k1,hino,fun _=>hH⟩,k2⟩
     ·have hs':decide ((allP (ofP l)).1=s)=false:=decide_eq_false hs
      rw [if_neg (fun hh=>hs (congrArg Prod.fst hh))]
      simp -dsimp (disch:=(repeat first | rw [nxn] | rw [nxp]);try omega) only [go_sem,ce,neSt,hs',c34,c14,bldT0]
      obtain ⟨k1,k2⟩:=fin g4 (g4.put (h.nx+1) (.cells [.nilptr] true false)) .nilptr .nil fg4 (nilT _) rfl fun j hj=>AH.get_put_ne hj
      exact ⟨⟨_,_,by first | trivial | rfl,k1,rfl,fun _=>trivial⟩,k2⟩
    ·have ce:¬(((allP (ofP l)).2:Nat):Int)=0:=by omega
     rw [if_neg (fun hh=>he (congrArg Prod.snd hh))]
     simp -dsimp (disch:=(repeat first | rw [nxn] | rw [nxp]);try omega) only [go_sem,ce,c34,c14,bldT0]
     obtain ⟨k1,k2⟩:=fin g4 (g4.put (h.nx+1) (.cells [.nilptr] true false)) .nilptr .nil fg4 (nilT _) rfl fun j hj=>AH.get_put_ne hj
     exact ⟨⟨_,_,by first | trivial | rfl,k1,rfl,fun _=>trivial⟩,k2⟩
  | false =>
   rw [tellP_rec hr]
   obtain ⟨fl,fp,fe,fb⟩:=fit.r l hr
   have hd:=done_rise l hrt
   simp -dsimp (disch:=(repeat first | rw [nxn] | rw [nxp]);try omega) only [go_sem,c11,ow]
   refine callK_of (recoC hS hw fl fp fe fb) ?_
   rintro w4 g4 ⟨rfl,f4⟩
   have n4:=f4.nx
   have c14:g4.get (h.nx+1)=_:=(f4.get _ (by omega)).trans c11
   have c04:g4.get h.nx=_:=(f4.get _ (by omega)).trans c01
   have fg4:Fr g g4:=f1.trans f4
   by_cases he:(recP l).2=0
   ·have ce:(((recP l).2:Nat):Int)=0:=by omega
    by_cases hs:(recP l).1=s
    ·have hs':decide ((recP l).1=s)=true:=decide_eq_true hs
     rw [if_pos (Prod.ext hs he)]
     simp -dsimp (disch:=(repeat first | rw [nxn] | rw [nxp]);try omega) only [go_sem,ce,neSt,hs',c04,ow,otv]
     refine callK_of (doneC hS.toTb (K:=K2 K h.nx) (ht0.fr fg4) hrt hts (hw.fr f4) (by omega) (fun p hp=>by have:=(fp p hp).1;omega) fun j hj=>topx j (by omega)) ?_
     rintro w5 g5 ⟨⟨a,t',rfl,ht',hino,hH⟩,f5⟩
     have n5:=f5.nx
     have c15:g5.get (h.nx+1)=_:=(f5.get _ (by omega)).trans c14
     obtain ⟨k1,k2⟩:=fin g5 (g5.put (h.nx+1) (.cells [a] true false)) a t' (fg4.trans f5) ht' rfl fun j hj=>AH.get_put_ne hj
     rcases ht'.shape with hsh | ⟨ia,hsh⟩
     all_goals
      subst hsh
      simp -dsimp (disch:=(repeat first | rw [nxn] | rw [nxp]);try omega) only [go_sem,c15]
      exact ⟨⟨_,_,by first | trivial | rfl,k1,hino,hH⟩,k2⟩
    ·have hs':decide ((recP l).1=s)=false:=decide_eq_false hs
     rw [if_neg (fun hh=>hs (congrArg Prod.fst hh))]
     simp -dsimp (disch:=(repeat first | rw [nxn] | rw [nxp]);try omega) only [go_sem,ce,neSt,hs',c14,bldT0]
     obtain ⟨k1,k2⟩:=fin g4 (g4.put (h.nx+1) (.cells [.nilptr] true false)) .nilptr .nil fg4 (nilT _) rfl fun j hj=>AH.get_put_ne hj
     exact ⟨⟨_,_,by first | trivial | rfl,k1,rfl,fun _=>trivial⟩,k2⟩
   ·have ce:¬(((recP l).2:Nat):Int)=0:=by omega
    rw [if_neg (fun hh=>he (congrArg Prod.snd hh))]
    simp -dsimp (disch:=(repeat first | rw [nxn] | rw [nxp]);try omega) only [go_sem,ce,c14,bldT0]
    obtain ⟨k1,k2⟩:=fin g4 (g4.put (h.nx+1) (.cells [.nilptr] true false)) .nilptr .nil fg4 (nilT _) rfl fun j hj=>AH.get_put_ne hj
    exact ⟨⟨_,_,by first | trivial | rfl,k1,rfl,fun _=>trivial⟩,k2⟩
end
end Go.Proofs.YtaooopaemphfjaaGreatDoor.tbl
end