/- Texts joined: SAa, SAb, SAc, SAd. -/
import Derived.Test.YtaooopaemphfjaaGreatDoorG5
import Derived.Test.YtaooopaemphfjaaGreatDoorH4
import Derived.Test.YtaooopaemphfjaaGreatDoorAb7
set_option maxRecDepth 100000
set_option linter.unusedVariables false
set_option linter.unusedSimpArgs false
set_option maxHeartbeats 16000000
section
namespace Go.Proofs.YtaooopaemphfjaaGreatDoor.tbl
open Go Go.Abs Go.Abs.Rec Go.Abs.Wal Go.Proofs Go.Proofs.YtaooopaemphfjaaGreatDoor.tre
structure TA (C:Nat→Nat) (h:AH) (p:Nat) (T:TT):Prop where
 tr:∃K nm sm chv ρ,Tr K p nm sm chv ρ h T∧∀j,K j≠0→C j≠0
 top:∀j,h.nx≤j→C j=0
structure SA (C:Nat→Nat) (h:AH) (p L Q:Nat) (path:Pth) (gr:Nat) (l:Lg) (T:TT) (tv:AV):Prop where
 tr:∃K nm sm chv ρ,Tr K p nm sm chv ρ h T∧(∀j,K j≠0→C j≠0)∧K L=0∧K Q=0
 top:∀j,h.nx≤j→C j=0
 lo:Lo h L p path l
 Ln:L<h.nx
 qc:h.get Q=some (.cells [tv,.ptr L 0,.int .i64 (gr:Nat)] true false)
 Qn:Q<h.nx
 ne:L≠Q
 cl:C L≠0
 cq:C Q≠0
theorem TA.lt {C h p T} (ht:TA C h p T) {j:Nat} (hj:C j≠0):j<h.nx:=Nat.lt_of_not_le fun hh=>hj (ht.top j hh)
section
variable {C : Nat → Nat} {h : AH} {p L Q : Nat} {path : Pth} {gr : Nat} {l : Lg} {T : TT} {tv : AV}
theorem SA.ta (hs:SA C h p L Q path gr l T tv):TA C h p T:=by
 obtain ⟨K,nm,sm,chv,ρ,hT,hC,_⟩:=hs.tr
 exact ⟨⟨K,nm,sm,chv,ρ,hT,hC⟩,hs.top⟩
theorem SA.lt (hs:SA C h p L Q path gr l T tv) {j:Nat} (hj:C j≠0):j<h.nx:=hs.ta.lt hj
theorem SA.kp (hs:SA C h p L Q path gr l T tv) {h':AH} (hn:h.nx≤h'.nx) (k:∀j,C j≠0→h'.get j=h.get j):SA C h' p L Q path gr l T tv:=by
 obtain ⟨K,nm,sm,chv,ρ,hT,hC,kl,kq⟩:=hs.tr
 exact ⟨⟨K,nm,sm,chv,ρ,hT.mono (fun j hj=>k j (hC j hj)) hn,hC,kl,kq⟩,fun j hj=>hs.top j (Nat.le_trans hn hj),(k L hs.cl).trans hs.lo,Nat.lt_of_lt_of_le hs.Ln hn,(k Q hs.cq).trans hs.qc,Nat.lt_of_lt_of_le hs.Qn hn,hs.ne,hs.cl,hs.cq⟩
theorem SA.fr (hs:SA C h p L Q path gr l T tv) {h':AH} (f:Fr h h'):SA C h' p L Q path gr l T tv:=hs.kp f.nx fun j hj=>f.get j (hs.lt hj)
theorem SA.step (hs:SA C h p L Q path gr l T tv) {K nm sm chv ρ} (hT:Tr K p nm sm chv ρ h T) (hC:∀j,K j≠0→C j≠0) (kl:K L=0) (kq:K Q=0) {h':AH} {l':Lg} {T':TT} (hr:ResX L K p h h' T') (hl:Lo h' L p path l'):∃C',SA C' h' p L Q path gr l' T' tv∧Gr C h C' h':=by
 obtain ⟨K',nm',sm',chv',ρ',hT',g⟩:=hr
 have z:∀j,C j=0→K j=0:=fun j hj=>Decidable.byContradiction fun hh=>hC j hh hj
 refine ⟨fun j=>K' j+C j,⟨⟨K',nm',sm',chv',ρ',hT',fun j hj=>by show K' j+C j≠0;omega,(g.get L hs.Ln kl).2,(g.get Q hs.Qn kq).2⟩,fun j hj=>?_,hl,Nat.lt_of_lt_of_le hs.Ln g.nx,((g.get Q hs.Qn kq).1 hs.ne.symm).trans hs.qc,Nat.lt_of_lt_of_le hs.Qn g.nx,hs.ne,?_,?_⟩,g.nx,fun j hj hk=>?_⟩
 ·have h1:=hT'.top j hj
  have h2:=hs.top j (Nat.le_trans g.nx hj)
  show K' j+C j=0
  omega
 ·have:=hs.cl;show K' L+C L≠0;omega
 ·have:=hs.cq;show K' Q+C Q≠0;omega
 ·have h1:=g.get j hj (z j hk)
  have hne:j≠L:=fun hh=>hs.cl (hh▸hk)
  exact ⟨h1.1 hne,by show K' j+C j=0;rw [h1.2,hk]⟩
theorem SA.setQ (hs:SA C h p L Q path gr l T tv) (tv':AV):SA C (h.put Q (.cells [tv',.ptr L 0,.int .i64 (gr:Nat)] true false)) p L Q path gr l T tv':=by
 obtain ⟨K,nm,sm,chv,ρ,hT,hC,kl,kq⟩:=hs.tr
 exact ⟨⟨K,nm,sm,chv,ρ,hT.mono (fun j hj=>AH.get_put_ne (fun hh=>hj (hh▸kq))) (Nat.le_refl _),hC,kl,kq⟩,hs.top,(AH.get_put_ne hs.ne).trans hs.lo,hs.Ln,AH.get_put_eq rfl,hs.Qn,hs.ne,hs.cl,hs.cq⟩
end
theorem grPut {C:Nat→Nat} {h:AH} {Q:Nat} (hq:C Q≠0) (o:AO):Gr C h C (h.put Q o):=⟨Nat.le_refl _,fun j hj hk=>⟨AH.get_put_ne (fun hh=>hq (hh▸hk)),hk⟩⟩
theorem tpGr {C C' J:Nat→Nat} {h h':AH} {v:AV} {t:Tp} (hC:∀j,C j≠0→J j≠0) (g:Gr C h C' h') (ht:TpA J h v t):TpA (fun j=>C' j+J j) h' v t:=by
 have z:∀j,J j=0→C j=0:=fun j hj=>Decidable.byContradiction fun hh=>hC j hh hj
 refine (ht.col (K':=fun j=>C' j+J j) fun j hj hk=>?_).keep g.nx fun j hj hk=>?_
 ·show C' j+J j=0
  rw [(g.get j hj (z j hk)).2,hk]
 ·have hk':C' j+J j=0:=hk
  exact (g.get j hj (z j (by omega))).1
theorem tpPut {J:Nat→Nat} {h:AH} {Q:Nat} {v:AV} {t:Tp} (ht:TpA J h v t) (hq:J Q≠0) (o:AO):TpA J (h.put Q o) v t:=TpA.keep (h:=h) (h':=h.put Q o) (Nat.le_refl h.nx) (fun j hj hk=>AH.get_put_ne (fun hh=>hq (by rw [←hh];exact hk))) ht
theorem psGr {C C':Nat→Nat} {h h':AH} {v:AV} {l:KL (List Nat×Bool)} (hv:Ps h v l) (hc:∀id o n z c,v=.sl id o n z c→C id=0) (g:Gr C h C' h'):Ps h' v l∧∀id o n z c,v=.sl id o n z c→C' id=0:=by
 rcases hv with ⟨h1,h2⟩ | ⟨id,off,c,cs,ow,tx,h1,h2,h3,h4⟩
 ·exact ⟨.inl ⟨h1,h2⟩,fun id o n z c hh=>by rw [h1] at hh;cases hh⟩
 ·have:=g.get id h3 (hc _ _ _ _ _ h1)
  exact ⟨.inr ⟨id,off,c,cs,ow,tx,h1,this.1.trans h2,Nat.lt_of_lt_of_le h3 g.nx,h4⟩,fun id' o n z c hh=>by rw [h1] at hh;cases hh;exact this.2⟩
theorem grFr {C:Nat→Nat} {h h':AH} (f:Fr h h'):Gr C h C h':=frGr f C
def Dj (C D:Nat→Nat):Prop:=∀j,C j≠0→D j=0
theorem Dj.gr {C C' D:Nat→Nat} {h h':AH} (d:Dj C D) (g:Gr C h C' h') (top:∀j,h.nx≤j→D j=0):Dj C' D:=fun j hj=>by
 rcases Nat.lt_or_ge j h.nx with h1 | h1
 ·exact d j fun hh=>hj (g.get j h1 hh).2
 ·exact top j h1
theorem neSto (h:AH) (a:Nat):binA Tryz.prog h .neq 29 (.ptr a 0) .nilptr=some (.bool true):=by kernel_rfl
theorem neLog (h:AH) (a:Nat):binA Tryz.prog h .neq 65 (.ptr a 0) .nilptr=some (.bool true):=by kernel_rfl
theorem svq (a o:Nat):sameAV 20 (.ptr a o) (.ptr a o)=true:=by simp [sameAV]
section
variable {S : Sums}
structure Sw (S:Sums):Prop where
 to:To S
 wl:Wl S
 nb:∀f args h,f∈[27,10,23,12,14,16,24,9,13,36,11,7]→S f args h=none
theorem srightC (hS:Sw S) {h:AH} {Q L:Nat} {tv g:AV} (hq:h.get Q=some (.cells [tv,.ptr L 0,g] true false)):RnC Tryz.prog S 27 [.ptr Q 0] h fun r h'=>r=.bool true∧h'=h:=by
 refine RnC.enter' Tryz.f27 _ 12 [.tmp 2] (hS.nb _ _ _ (by simp)) bd27 Tryz.func27 rfl rfl rfl ?_
 simp -dsimp (disch:=(repeat first | rw [nxn] | rw [nxp]);try omega) only [go_sem,neSto,neLog,hq]
 exact ⟨by first | trivial | rfl,by first | trivial | rfl⟩
theorem batchC (hS:Sw S) {C J:Nat→Nat} {h:AH} {p L Q:Nat} {path:Pth} {gr:Nat} {s:Sx} {tv v:AV} {t:Tp} {b:KL (List Nat×Bool)} (hs:SA C h p L Q path gr s.l s.T tv) (hp:checkS path=0) {n c:Nat} (hb:Bm n c s.T) (hn:n≤15000) (hc:c<1152921504605000000) (hz:s.l.size≤1000000000) (hz2:s.l.n≤1000000000)
  (htv:TpA J h tv t) (hJ:∀j,C j≠0→J j≠0) (topJ:∀j,h.nx≤j→J j=0) (hit:ino t=s.L) (hrt:riseP s.L) (hts:t.size≤16000) (hgr:gr≤9223372036854775807)
  (hv:Ps h v b) (hvC:∀id o n z c,v=.sl id o n z c→C id=0) (hbl:b.length≤4096) (hpl:∀p∈b,p.1.length<16384∧p.2.1.length<16384) (hrl:(recE (lastD b)).length≤1048576) (hrb:∀x∈recE (lastD b),x<256)
  (hall:gr<s.l.size→(∀p∈s.L,p.1.length<16384∧p.2.length<16384)∧(allE s.L).length≤1000000∧∀x∈allE s.L,x<256) :
  RnC Tryz.prog S 10 [.ptr Q 0,v] h fun r h'=>r=.int .i64 ((batX path (tmpS++path) gr s b).1:Nat)∧∃C' tv' t',SA C' h' p L Q path gr (batX path (tmpS++path) gr s b).2.l (batX path (tmpS++path) gr s b).2.T tv'∧Gr C h C' h'∧TpA (fun j=>C' j+J j) h' tv' t'∧ino t'=(batX path (tmpS++path) gr s b).2.L∧(Hp t→Hp t'):=by
 refine RnC.enter' Tryz.f10 _ 95 [.tmp 4] (hS.nb _ _ _ (by simp)) bd10 Tryz.func10 rfl rfl rfl ?_
 have ov:=hv.ln.2.2
 have otv:=htv.one.1
 simp -dsimp (disch:=(repeat first | rw [nxn] | rw [nxp]);try omega) only [go_sem,ov]
 refine callK_of (srightC hS hs.qc) ?_
 rintro r g ⟨rfl,rfl⟩
 simp -dsimp (disch:=(repeat first | rw [nxn] | rw [nxp]);try omega) only [go_sem,ov]
 refine callK_of (recoC hS.to hv hbl hpl hrl hrb) ?_
 rintro r g1 ⟨rfl,f1⟩
 have hs1:=hs.fr f1
 by_cases he:(recP b).2≠0
 ·have e:batX path (tmpS++path) gr s b=((recP b).2,s):=by unfold batX;rw [if_pos he]
  have c1:¬(((recP b).2:Nat):Int)=0:=by omega
  rw [e]
  simp -dsimp (disch:=(repeat first | rw [nxn] | rw [nxp]);try omega) only [go_sem,c1]
  exact ⟨by first | trivial | rfl,C,tv,t,hs1,grFr f1,tpGr hJ (grFr f1) htv,hit,id⟩
 have c1:(((recP b).2:Nat):Int)=0:=by omega
 have hok:=rec_no (by omega:(recP b).2=0)
 have erec:(recP b).1=recE (lastD b):=by rw [rec_ok hok]
 have q1:=hs1.qc
 simp -dsimp (disch:=(repeat first | rw [nxn] | rw [nxp]);try omega) only [go_sem,c1,q1]
 refine syDraw.keep (fun j=>j=Q) (by kernel_rfl) (by kernel_rfl) ?_
 have fx:Fr g1 { tr:=g1.tr,nx:=g1.nx+10 }:=(Fr.refl g1).more _ (by omega)
 have hs2:=hs1.fr fx
 have hls:=lsizeC hS.wl hs2.lo
 simp -dsimp (disch:=(repeat first | rw [nxn] | rw [nxp]);try omega) only [go_sem,q1,true_and,implies_true,svi,svb,svs,svq]
 generalize ({ tr:=g1.tr,nx:=g1.nx+10 }:AH)=g2 at fx hs2 hls ⊢
 refine callK_of hls ?_
 rintro r g2' ⟨rfl,rfl⟩
 refine ⟨fun j hj=>by first | rfl | exact fx.get j (by subst hj;exact hs1.Qn),?_⟩
 have gr2:Gr C g C g2':=grFr (f1.trans fx)
 have q2:=hs2.qc
 have bm:=Bm.asdX (p:=path) (q:=tmpS++path) (gr:=gr) hb
 have bz:=asdX_size (p:=path) (q:=tmpS++path) (gr:=gr) (s:=s)
 by_cases hg:gr<s.l.size
 ·have cg:((gr:Nat):Int)<((s.l.size:Nat):Int):=by omega
  obtain ⟨hall1,hall2,hall3⟩:=hall hg
  have om:=otv
  unfold oneA at om
  simp -dsimp (disch:=(repeat first | rw [nxn] | rw [nxp]);try omega) only [go_sem,q2,otv,om,true_and,implies_true,svi,svb,svs,svq,cg]
  refine callK_of (allC hS.to ((htv.fr f1).fr fx) hts (by rw [hit];exact hall1) (by rw [hit];omega) (by rw [hit];exact hall3)) ?_
  rintro r g3 ⟨rfl,f3⟩
  rw [hit]
  have hs3':=hs2.fr f3
  have q3':=hs3'.qc
  have la0:(allP s.L).1.length≤1000000:=by
   unfold allP
   split
   ·exact Nat.zero_le _
   ·split
    ·exact Nat.zero_le _
    ·exact hall2
  have by0:∀x∈(allP s.L).1,x<256:=by
   unfold allP
   split
   ·exact fun x hx=>by cases hx
   ·split
    ·exact fun x hx=>by cases hx
    ·exact hall3
  have frl:(frs [(allP s.L).1]).length=(allP s.L).1.length+8:=by rw [frs_sum];simp [sumL]
  rw [frl] at bz
  by_cases ha:(allP s.L).2=0
  ·have ca:(((allP s.L).2:Nat):Int)=0:=by omega
   have ls:∀g,evLen Tryz.prog g #[9] (.str (allP s.L).1)=some (.int .i64 (((allP s.L).1.length:Nat):Int)):=fun g=>by simp [evLen,Tryz.underlying9]
   simp -dsimp (disch:=(repeat first | rw [nxn] | rw [nxp]);try omega) only [go_sem,ca,q3']
   refine callK_of (lsizeC hS.wl hs3'.lo) ?_
   rintro r g3' ⟨rfl,rfl⟩
   by_cases hgg:2*((allP s.L).1.length+8)<s.l.size
   ·have cgg:(2:Int)*((((allP s.L).1.length:Nat):Int)+8)<((s.l.size:Nat):Int):=by omega
    have easd:asdX path (tmpS++path) gr s=asideL path (tmpS++path) s.l s.T [(allP s.L).1]:=by unfold asdX;rw [if_pos ⟨hg,ha,hgg⟩]
    rw [easd] at bm bz
    obtain ⟨K2,nm2,sm2,ch2,ρ2,hT2,hC2,kl2,kq2⟩:=hs3'.tr
    have f4:Fr g3' (g3'.new (.cells [.str (allP s.L).1] true false)):=Fr.new _ _
    have hx:Tx K2 (g3'.new (.cells [.str (allP s.L).1] true false)) (.sl g3'.nx 0 1 1 (some 1)) [(allP s.L).1]:=⟨.inr ⟨g3'.nx,0,some 1,_,true,false,rfl,AH.get_new_eq rfl,Nat.lt_succ_self _,by simp,fun k hk=>(by cases hk;simp),rfl⟩,fun id o n z c hh=>by cases hh;exact hT2.top _ (Nat.le_refl _)⟩
    have hs4':=hs3'.fr f4
    have las:=lasidePC hS.wl (hT2.fr f4) hb (by omega) (by omega) hs4'.lo ⟨hs4'.Ln,kl2⟩ hp hx (fun x hx=>by rw [List.mem_singleton.1 hx];exact ⟨by omega,by0⟩) (by rw [frl];omega)
    rcases haa:asideL path (tmpS++path) s.l s.T [(allP s.L).1] with ⟨ea,l3,T3⟩
    rw [haa] at las bm bz
    dsimp only at las bm bz
    simp (maxSteps:=1000000) -dsimp (disch:=(repeat first | rw [nxn] | rw [nxp]);try omega) only [go_sem,ls,cgg,q3']
    refine callK_of las ?_
    rintro r g3 ⟨rfl,hra,hla⟩
    obtain ⟨C3,hs3,gr34⟩:=hs4'.step (hT2.fr f4) hC2 kl2 kq2 hra hla
    have gr3:=(gr2.trans (grFr (f3.trans f4))).trans gr34
    by_cases hea:ea≠0
    ·have e:batX path (tmpS++path) gr s b=(ea,⟨l3,T3,s.L⟩):=by
      unfold batX
      rw [if_neg he,easd,haa]
      exact if_pos hea
     have cea:¬((ea:Nat):Int)=0:=by omega
     rw [e]
     simp -dsimp (disch:=(repeat first | rw [nxn] | rw [nxp]);try omega) only [go_sem,cea]
     exact ⟨by first | trivial | rfl,C3,tv,t,hs3,gr3,tpGr hJ gr3 htv,hit,id⟩
    have cea:((ea:Nat):Int)=0:=by omega
    have hA:asdX path (tmpS++path) gr s=(0,l3,T3):=by rw [easd,haa];congr 1;omega
    have hb3:Bm (n+6) (c+6) T3:=bm
    obtain ⟨hz3,hn3⟩:=bz
    simp -dsimp (disch:=(repeat first | rw [nxn] | rw [nxp]);try omega) only [go_sem,cea]
    obtain ⟨K3,nm3,sm3,ch3,ρ3,hT3,hC3,kl3,kq3⟩:=hs3.tr
    have e:batX path (tmpS++path) gr s b=(if (appendL path l3 T3 (recP b).1).1≠0 then ((appendL path l3 T3 (recP b).1).1,⟨(appendL path l3 T3 (recP b).1).2.1,(appendL path l3 T3 (recP b).1).2.2,s.L⟩) else if (syncL path (appendL path l3 T3 (recP b).1).2.1 (appendL path l3 T3 (recP b).1).2.2).1≠0 then ((syncL path (appendL path l3 T3 (recP b).1).2.1 (appendL path l3 T3 (recP b).1).2.2).1,⟨(syncL path (appendL path l3 T3 (recP b).1).2.1 (appendL path l3 T3 (recP b).1).2.2).2.1,(syncL path (appendL path l3 T3 (recP b).1).2.1 (appendL path l3 T3 (recP b).1).2.2).2.2,s.L⟩) else (0,⟨(syncL path (appendL path l3 T3 (recP b).1).2.1 (appendL path l3 T3 (recP b).1).2.2).2.1,(syncL path (appendL path l3 T3 (recP b).1).2.1 (appendL path l3 T3 (recP b).1).2.2).2.2,doneP s.L (lastD b)⟩)):=by
     unfold batX
     rw [if_neg he,hA]
     rfl
    have la:=lappendC hS.wl hT3 hb3 (by omega) (by omega) hs3.lo ⟨hs3.Ln,kl3⟩ hp (s:=(recP b).1) (by rw [erec];exact hrl) (by rw [erec];exact hrb) (by omega) (by omega)
    rcases haw:appendL path l3 T3 (recP b).1 with ⟨ew,lw,Tw⟩
    rw [haw] at la e
    dsimp only at la e
    have q3:=hs3.qc
    rw [e]
    try simp -dsimp (disch:=(repeat first | rw [nxn] | rw [nxp]);try omega) only [go_sem,q3]
    refine callK_of la ?_
    rintro r g4 ⟨rfl,hr4,hl4⟩
    obtain ⟨C4,hs4,gr4⟩:=hs3.step hT3 hC3 kl3 kq3 hr4 hl4
    have grr4:=gr3.trans gr4
    by_cases hw:ew≠0
    ·have c4:¬((ew:Nat):Int)=0:=by omega
     rw [if_pos hw]
     simp -dsimp (disch:=(repeat first | rw [nxn] | rw [nxp]);try omega) only [go_sem,c4]
     exact ⟨by first | trivial | rfl,C4,tv,t,hs4,grr4,tpGr hJ grr4 htv,hit,id⟩
    have c4:((ew:Nat):Int)=0:=by omega
    rw [if_neg hw]
    obtain ⟨K4,nm4,sm4,ch4,ρ4,hT4,hC4,kl4,kq4⟩:=hs4.tr
    have ly:=lsyncC hS.wl hT4 hs4.lo ⟨hs4.Ln,kl4⟩ hp
    rcases hyw:syncL path lw Tw with ⟨ey,lys,Ty⟩
    rw [hyw] at ly
    dsimp only at ly
    have q4:=hs4.qc
    simp (maxSteps:=1000000) -dsimp (disch:=(repeat first | rw [nxn] | rw [nxp]);try omega) only [go_sem,c4,q4]
    refine callK_of ly ?_
    rintro r g5 ⟨rfl,hr5,hl5⟩
    obtain ⟨C5,hs5,gr5⟩:=hs4.step hT4 hC4 kl4 kq4 hr5 hl5
    have grr5:=grr4.trans gr5
    by_cases hy:ey≠0
    ·have c5:¬((ey:Nat):Int)=0:=by omega
     rw [if_pos hy]
     simp -dsimp (disch:=(repeat first | rw [nxn] | rw [nxp]);try omega) only [go_sem,c5]
     exact ⟨by first | trivial | rfl,C5,tv,t,hs5,grr5,tpGr hJ grr5 htv,hit,id⟩
    have c5:((ey:Nat):Int)=0:=by omega
    rw [if_neg hy]
    have q5:=hs5.qc
    have Qn5:=hs5.Qn
    simp -dsimp (disch:=(repeat first | rw [nxn] | rw [nxp]);try omega) only [go_sem,c5]
    refine syDraw.keepN 12 (fun j=>j=Q) (by kernel_rfl) (by kernel_rfl) rfl ?_
    have fy:Fr g5 { tr:=g5.tr,nx:=g5.nx+13 }:=(Fr.refl g5).more _ (by omega)
    have hv5:=(psGr hv hvC grr5).1
    have ht5:=tpGr hJ grr5 htv
    have sT:=svT htv.shape
    have om:=otv
    unfold oneA at om
    simp (maxSteps:=1000000) -dsimp (disch:=(repeat first | rw [nxn] | rw [nxp]);try omega) only [go_sem,q5,otv,om,ov,sT,true_and,implies_true,svi,svb,svs,svq]
    refine callK_of (lastC hS.to.toTs (hv5.fr fy) (by omega)) ?_
    rintro w6 g6 ⟨hp6,f6⟩
    have n6:g5.nx+13≤g6.nx:=f6.nx
    refine ⟨fun j hj=>by rw [hj];exact f6.get _ (by show Q<g5.nx+13;omega),?_⟩
    have o6:=hp6.ln.2.2
    have hll:=last_len b
    try simp -dsimp (disch:=(repeat first | rw [nxn] | rw [nxp]);try omega) only [go_sem,otv,om,o6,true_and,implies_true,svi,svb,svs,svq]
    refine callK_of (doneC hS.to.toTb (K:=fun j=>C5 j+J j) ((ht5.fr fy).fr f6) (by rw [hit];exact hrt) (by omega) hp6 (by omega) (fun q hq=>by have:=(hpl q (last_mem hq)).1;omega) (fun j hj=>by
     have h1:=hs5.top j (by omega)
     have h2:=topJ j (Nat.le_trans grr5.nx (by omega))
     show C5 j+J j=0
     omega)) ?_
    rintro w7 g7 ⟨⟨a,t',rfl,hta,hino,hH⟩,f7⟩
    have n7:=f7.nx
    refine ⟨fun j hj=>by subst hj;exact f7.get _ (by omega),?_⟩
    have f57:=(fy.trans f6).trans f7
    have hs7:=hs5.fr f57
    have q7:=hs7.qc
    have fin:∀o:AV,SA C5 (g7.put Q (.cells [a,.ptr L 0,.int .i64 (gr:Nat)] true false)) p L Q path gr lys Ty a∧Gr C g C5 (g7.put Q (.cells [a,.ptr L 0,.int .i64 (gr:Nat)] true false))∧TpA (fun j=>C5 j+J j) (g7.put Q (.cells [a,.ptr L 0,.int .i64 (gr:Nat)] true false)) a t':=fun _ =>
     ⟨hs7.setQ a,(grr5.trans (grFr f57)).trans (grPut hs7.cq _),tpPut hta (by have:=hs7.cq;show C5 Q+J Q≠0;omega) _⟩
    obtain ⟨z1,z2,z3⟩:=fin a
    rw [hit] at hino
    rcases hta.shape with hsh | ⟨ia,hsh⟩
    all_goals
     subst hsh
     simp -dsimp (disch:=(repeat first | rw [nxn] | rw [nxp]);try omega) only [go_sem,q7]
     first | exact ⟨C5,_,t',z1,z2,z3,hino,hH⟩ | exact ⟨by first | trivial | rfl,C5,_,t',z1,z2,z3,hino,hH⟩
   ·have cgg:¬(2:Int)*((((allP s.L).1.length:Nat):Int)+8)<((s.l.size:Nat):Int):=by omega
    have hA:asdX path (tmpS++path) gr s=(0,s.l,s.T):=by unfold asdX;rw [if_neg (fun hh=>hgg hh.2.2)]
    obtain ⟨l3,T3,hl3,hT3e⟩:∃l3 T3,s.l=l3∧s.T=T3:=⟨_,_,rfl,rfl⟩
    have hb3:Bm (n+6) (c+6) s.T:=hb.mono (by omega) (by omega)
    have hs3:=hs3'
    have gr3:=gr2.trans (grFr f3)
    rw [hl3,hT3e] at hs3
    rw [hl3] at hz hz2
    rw [hT3e] at hb3
    rw [hl3,hT3e] at hA
    simp (maxSteps:=1000000) -dsimp (disch:=(repeat first | rw [nxn] | rw [nxp]);try omega) only [go_sem,ls,cgg,q3']
    obtain ⟨K3,nm3,sm3,ch3,ρ3,hT3,hC3,kl3,kq3⟩:=hs3.tr
    have e:batX path (tmpS++path) gr s b=(if (appendL path l3 T3 (recP b).1).1≠0 then ((appendL path l3 T3 (recP b).1).1,⟨(appendL path l3 T3 (recP b).1).2.1,(appendL path l3 T3 (recP b).1).2.2,s.L⟩) else if (syncL path (appendL path l3 T3 (recP b).1).2.1 (appendL path l3 T3 (recP b).1).2.2).1≠0 then ((syncL path (appendL path l3 T3 (recP b).1).2.1 (appendL path l3 T3 (recP b).1).2.2).1,⟨(syncL path (appendL path l3 T3 (recP b).1).2.1 (appendL path l3 T3 (recP b).1).2.2).2.1,(syncL path (appendL path l3 T3 (recP b).1).2.1 (appendL path l3 T3 (recP b).1).2.2).2.2,s.L⟩) else (0,⟨(syncL path (appendL path l3 T3 (recP b).1).2.1 (appendL path l3 T3 (recP b).1).2.2).2.1,(syncL path (appendL path l3 T3 (recP b).1).2.1 (appendL path l3 T3 (recP b).1).2.2).2.2,doneP s.L (lastD b)⟩)):=by
     unfold batX
     rw [if_neg he,hA]
     rfl
    have la:=lappendC hS.wl hT3 hb3 (by omega) (by omega) hs3.lo ⟨hs3.Ln,kl3⟩ hp (s:=(recP b).1) (by rw [erec];exact hrl) (by rw [erec];exact hrb) (by omega) (by omega)
    rcases haw:appendL path l3 T3 (recP b).1 with ⟨ew,lw,Tw⟩
    rw [haw] at la e
    dsimp only at la e
    have q3:=hs3.qc
    rw [e]
    try simp -dsimp (disch:=(repeat first | rw [nxn] | rw [nxp]);try omega) only [go_sem,q3]
    refine callK_of la ?_
    rintro r g4 ⟨rfl,hr4,hl4⟩
    obtain ⟨C4,hs4,gr4⟩:=hs3.step hT3 hC3 kl3 kq3 hr4 hl4
    have grr4:=gr3.trans gr4
    by_cases hw:ew≠0
    ·have c4:¬((ew:Nat):Int)=0:=by omega
     rw [if_pos hw]
     simp -dsimp (disch:=(repeat first | rw [nxn] | rw [nxp]);try omega) only [go_sem,c4]
     exact ⟨by first | trivial | rfl,C4,tv,t,hs4,grr4,tpGr hJ grr4 htv,hit,id⟩
    have c4:((ew:Nat):Int)=0:=by omega
    rw [if_neg hw]
    obtain ⟨K4,nm4,sm4,ch4,ρ4,hT4,hC4,kl4,kq4⟩:=hs4.tr
    have ly:=lsyncC hS.wl hT4 hs4.lo ⟨hs4.Ln,kl4⟩ hp
    rcases hyw:syncL path lw Tw with ⟨ey,lys,Ty⟩
    rw [hyw] at ly
    dsimp only at ly
    have q4:=hs4.qc
    simp -dsimp (disch:=(repeat first | rw [nxn] | rw [nxp]);try omega) only [go_sem,c4,q4]
    refine callK_of ly ?_
    rintro r g5 ⟨rfl,hr5,hl5⟩
    obtain ⟨C5,hs5,gr5⟩:=hs4.step hT4 hC4 kl4 kq4 hr5 hl5
    have grr5:=grr4.trans gr5
    by_cases hy:ey≠0
    ·have c5:¬((ey:Nat):Int)=0:=by omega
     rw [if_pos hy]
     simp -dsimp (disch:=(repeat first | rw [nxn] | rw [nxp]);try omega) only [go_sem,c5]
     exact ⟨by first | trivial | rfl,C5,tv,t,hs5,grr5,tpGr hJ grr5 htv,hit,id⟩
    have c5:((ey:Nat):Int)=0:=by omega
    rw [if_neg hy]
    have q5:=hs5.qc
    have Qn5:=hs5.Qn
    simp -dsimp (disch:=(repeat first | rw [nxn] | rw [nxp]);try omega) only [go_sem,c5]
    refine syDraw.keepN 12 (fun j=>j=Q) (by kernel_rfl) (by kernel_rfl) rfl ?_
    have fy:Fr g5 { tr:=g5.tr,nx:=g5.nx+13 }:=(Fr.refl g5).more _ (by omega)
    have hv5:=(psGr hv hvC grr5).1
    have ht5:=tpGr hJ grr5 htv
    have sT:=svT htv.shape
    have om:=otv
    unfold oneA at om
    simp (maxSteps:=1000000) -dsimp (disch:=(repeat first | rw [nxn] | rw [nxp]);try omega) only [go_sem,q5,otv,om,ov,sT,true_and,implies_true,svi,svb,svs,svq]
    refine callK_of (lastC hS.to.toTs (hv5.fr fy) (by omega)) ?_
    rintro w6 g6 ⟨hp6,f6⟩
    have n6:g5.nx+13≤g6.nx:=f6.nx
    refine ⟨fun j hj=>by rw [hj];exact f6.get _ (by show Q<g5.nx+13;omega),?_⟩
    have o6:=hp6.ln.2.2
    have hll:=last_len b
    try simp -dsimp (disch:=(repeat first | rw [nxn] | rw [nxp]);try omega) only [go_sem,otv,om,o6,true_and,implies_true,svi,svb,svs,svq]
    refine callK_of (doneC hS.to.toTb (K:=fun j=>C5 j+J j) ((ht5.fr fy).fr f6) (by rw [hit];exact hrt) (by omega) hp6 (by omega) (fun q hq=>by have:=(hpl q (last_mem hq)).1;omega) (fun j hj=>by
     have h1:=hs5.top j (by omega)
     have h2:=topJ j (Nat.le_trans grr5.nx (by omega))
     show C5 j+J j=0
     omega)) ?_
    rintro w7 g7 ⟨⟨a,t',rfl,hta,hino,hH⟩,f7⟩
    have n7:=f7.nx
    refine ⟨fun j hj=>by subst hj;exact f7.get _ (by omega),?_⟩
    have f57:=(fy.trans f6).trans f7
    have hs7:=hs5.fr f57
    have q7:=hs7.qc
    have fin:∀o:AV,SA C5 (g7.put Q (.cells [a,.ptr L 0,.int .i64 (gr:Nat)] true false)) p L Q path gr lys Ty a∧Gr C g C5 (g7.put Q (.cells [a,.ptr L 0,.int .i64 (gr:Nat)] true false))∧TpA (fun j=>C5 j+J j) (g7.put Q (.cells [a,.ptr L 0,.int .i64 (gr:Nat)] true false)) a t':=fun _ =>
     ⟨hs7.setQ a,(grr5.trans (grFr f57)).trans (grPut hs7.cq _),tpPut hta (by have:=hs7.cq;show C5 Q+J Q≠0;omega) _⟩
    obtain ⟨z1,z2,z3⟩:=fin a
    rw [hit] at hino
    rcases hta.shape with hsh | ⟨ia,hsh⟩
    all_goals
     subst hsh
     simp -dsimp (disch:=(repeat first | rw [nxn] | rw [nxp]);try omega) only [go_sem,q7]
     first | exact ⟨C5,_,t',z1,z2,z3,hino,hH⟩ | exact ⟨by first | trivial | rfl,C5,_,t',z1,z2,z3,hino,hH⟩
  ·have ca:¬(((allP s.L).2:Nat):Int)=0:=by omega
   have hA:asdX path (tmpS++path) gr s=(0,s.l,s.T):=by unfold asdX;rw [if_neg (fun hh=>ha hh.2.1)]
   obtain ⟨l3,T3,hl3,hT3e⟩:∃l3 T3,s.l=l3∧s.T=T3:=⟨_,_,rfl,rfl⟩
   have hb3:Bm (n+6) (c+6) s.T:=hb.mono (by omega) (by omega)
   have hs3:=hs3'
   have gr3:=gr2.trans (grFr f3)
   rw [hl3,hT3e] at hs3
   rw [hl3] at hz hz2
   rw [hT3e] at hb3
   rw [hl3,hT3e] at hA
   simp (maxSteps:=1000000) -dsimp (disch:=(repeat first | rw [nxn] | rw [nxp]);try omega) only [go_sem,ca]
   obtain ⟨K3,nm3,sm3,ch3,ρ3,hT3,hC3,kl3,kq3⟩:=hs3.tr
   have e:batX path (tmpS++path) gr s b=(if (appendL path l3 T3 (recP b).1).1≠0 then ((appendL path l3 T3 (recP b).1).1,⟨(appendL path l3 T3 (recP b).1).2.1,(appendL path l3 T3 (recP b).1).2.2,s.L⟩) else if (syncL path (appendL path l3 T3 (recP b).1).2.1 (appendL path l3 T3 (recP b).1).2.2).1≠0 then ((syncL path (appendL path l3 T3 (recP b).1).2.1 (appendL path l3 T3 (recP b).1).2.2).1,⟨(syncL path (appendL path l3 T3 (recP b).1).2.1 (appendL path l3 T3 (recP b).1).2.2).2.1,(syncL path (appendL path l3 T3 (recP b).1).2.1 (appendL path l3 T3 (recP b).1).2.2).2.2,s.L⟩) else (0,⟨(syncL path (appendL path l3 T3 (recP b).1).2.1 (appendL path l3 T3 (recP b).1).2.2).2.1,(syncL path (appendL path l3 T3 (recP b).1).2.1 (appendL path l3 T3 (recP b).1).2.2).2.2,doneP s.L (lastD b)⟩)):=by
    unfold batX
    rw [if_neg he,hA]
    rfl
   have la:=lappendC hS.wl hT3 hb3 (by omega) (by omega) hs3.lo ⟨hs3.Ln,kl3⟩ hp (s:=(recP b).1) (by rw [erec];exact hrl) (by rw [erec];exact hrb) (by omega) (by omega)
   rcases haw:appendL path l3 T3 (recP b).1 with ⟨ew,lw,Tw⟩
   rw [haw] at la e
   dsimp only at la e
   have q3:=hs3.qc
   rw [e]
   try simp -dsimp (disch:=(repeat first | rw [nxn] | rw [nxp]);try omega) only [go_sem,q3]
   refine callK_of la ?_
   rintro r g4 ⟨rfl,hr4,hl4⟩
   obtain ⟨C4,hs4,gr4⟩:=hs3.step hT3 hC3 kl3 kq3 hr4 hl4
   have grr4:=gr3.trans gr4
   by_cases hw:ew≠0
   ·have c4:¬((ew:Nat):Int)=0:=by omega
    rw [if_pos hw]
    simp -dsimp (disch:=(repeat first | rw [nxn] | rw [nxp]);try omega) only [go_sem,c4]
    exact ⟨by first | trivial | rfl,C4,tv,t,hs4,grr4,tpGr hJ grr4 htv,hit,id⟩
   have c4:((ew:Nat):Int)=0:=by omega
   rw [if_neg hw]
   obtain ⟨K4,nm4,sm4,ch4,ρ4,hT4,hC4,kl4,kq4⟩:=hs4.tr
   have ly:=lsyncC hS.wl hT4 hs4.lo ⟨hs4.Ln,kl4⟩ hp
   rcases hyw:syncL path lw Tw with ⟨ey,lys,Ty⟩
   rw [hyw] at ly
   dsimp only at ly
   have q4:=hs4.qc
   simp -dsimp (disch:=(repeat first | rw [nxn] | rw [nxp]);try omega) only [go_sem,c4,q4]
   refine callK_of ly ?_
   rintro r g5 ⟨rfl,hr5,hl5⟩
   obtain ⟨C5,hs5,gr5⟩:=hs4.step hT4 hC4 kl4 kq4 hr5 hl5
   have grr5:=grr4.trans gr5
   by_cases hy:ey≠0
   ·have c5:¬((ey:Nat):Int)=0:=by omega
    rw [if_pos hy]
    simp -dsimp (disch:=(repeat first | rw [nxn] | rw [nxp]);try omega) only [go_sem,c5]
    exact ⟨by first | trivial | rfl,C5,tv,t,hs5,grr5,tpGr hJ grr5 htv,hit,id⟩
   have c5:((ey:Nat):Int)=0:=by omega
   rw [if_neg hy]
   have q5:=hs5.qc
   have Qn5:=hs5.Qn
   simp -dsimp (disch:=(repeat first | rw [nxn] | rw [nxp]);try omega) only [go_sem,c5]
   refine syDraw.keepN 12 (fun j=>j=Q) (by kernel_rfl) (by kernel_rfl) rfl ?_
   have fy:Fr g5 { tr:=g5.tr,nx:=g5.nx+13 }:=(Fr.refl g5).more _ (by omega)
   have hv5:=(psGr hv hvC grr5).1
   have ht5:=tpGr hJ grr5 htv
   have sT:=svT htv.shape
   have om:=otv
   unfold oneA at om
   simp (maxSteps:=1000000) -dsimp (disch:=(repeat first | rw [nxn] | rw [nxp]);try omega) only [go_sem,q5,otv,om,ov,sT,true_and,implies_true,svi,svb,svs,svq]
   refine callK_of (lastC hS.to.toTs (hv5.fr fy) (by omega)) ?_
   rintro w6 g6 ⟨hp6,f6⟩
   have n6:g5.nx+13≤g6.nx:=f6.nx
   refine ⟨fun j hj=>by rw [hj];exact f6.get _ (by show Q<g5.nx+13;omega),?_⟩
   have o6:=hp6.ln.2.2
   have hll:=last_len b
   try simp -dsimp (disch:=(repeat first | rw [nxn] | rw [nxp]);try omega) only [go_sem,otv,om,o6,true_and,implies_true,svi,svb,svs,svq]
   refine callK_of (doneC hS.to.toTb (K:=fun j=>C5 j+J j) ((ht5.fr fy).fr f6) (by rw [hit];exact hrt) (by omega) hp6 (by omega) (fun q hq=>by have:=(hpl q (last_mem hq)).1;omega) (fun j hj=>by
    have h1:=hs5.top j (by omega)
    have h2:=topJ j (Nat.le_trans grr5.nx (by omega))
    show C5 j+J j=0
    omega)) ?_
   rintro w7 g7 ⟨⟨a,t',rfl,hta,hino,hH⟩,f7⟩
   have n7:=f7.nx
   refine ⟨fun j hj=>by subst hj;exact f7.get _ (by omega),?_⟩
   have f57:=(fy.trans f6).trans f7
   have hs7:=hs5.fr f57
   have q7:=hs7.qc
   have fin:∀o:AV,SA C5 (g7.put Q (.cells [a,.ptr L 0,.int .i64 (gr:Nat)] true false)) p L Q path gr lys Ty a∧Gr C g C5 (g7.put Q (.cells [a,.ptr L 0,.int .i64 (gr:Nat)] true false))∧TpA (fun j=>C5 j+J j) (g7.put Q (.cells [a,.ptr L 0,.int .i64 (gr:Nat)] true false)) a t':=fun _ =>
    ⟨hs7.setQ a,(grr5.trans (grFr f57)).trans (grPut hs7.cq _),tpPut hta (by have:=hs7.cq;show C5 Q+J Q≠0;omega) _⟩
   obtain ⟨z1,z2,z3⟩:=fin a
   rw [hit] at hino
   rcases hta.shape with hsh | ⟨ia,hsh⟩
   all_goals
    subst hsh
    simp -dsimp (disch:=(repeat first | rw [nxn] | rw [nxp]);try omega) only [go_sem,q7]
    first | exact ⟨C5,_,t',z1,z2,z3,hino,hH⟩ | exact ⟨by first | trivial | rfl,C5,_,t',z1,z2,z3,hino,hH⟩
 ·have cg:¬((gr:Nat):Int)<((s.l.size:Nat):Int):=by omega
  have hA:asdX path (tmpS++path) gr s=(0,s.l,s.T):=by unfold asdX;rw [if_neg (fun hh=>hg hh.1)]
  obtain ⟨l3,T3,hl3,hT3e⟩:∃l3 T3,s.l=l3∧s.T=T3:=⟨_,_,rfl,rfl⟩
  have hb3:Bm (n+6) (c+6) s.T:=hb.mono (by omega) (by omega)
  have hs3:=hs2
  have gr3:=gr2
  rw [hl3,hT3e] at hs3
  rw [hl3] at hz hz2
  rw [hT3e] at hb3
  rw [hl3,hT3e] at hA
  simp -dsimp (disch:=(repeat first | rw [nxn] | rw [nxp]);try omega) only [go_sem,q2,true_and,implies_true,svi,svb,svs,svq,cg]
  obtain ⟨K3,nm3,sm3,ch3,ρ3,hT3,hC3,kl3,kq3⟩:=hs3.tr
  have e:batX path (tmpS++path) gr s b=(if (appendL path l3 T3 (recP b).1).1≠0 then ((appendL path l3 T3 (recP b).1).1,⟨(appendL path l3 T3 (recP b).1).2.1,(appendL path l3 T3 (recP b).1).2.2,s.L⟩) else if (syncL path (appendL path l3 T3 (recP b).1).2.1 (appendL path l3 T3 (recP b).1).2.2).1≠0 then ((syncL path (appendL path l3 T3 (recP b).1).2.1 (appendL path l3 T3 (recP b).1).2.2).1,⟨(syncL path (appendL path l3 T3 (recP b).1).2.1 (appendL path l3 T3 (recP b).1).2.2).2.1,(syncL path (appendL path l3 T3 (recP b).1).2.1 (appendL path l3 T3 (recP b).1).2.2).2.2,s.L⟩) else (0,⟨(syncL path (appendL path l3 T3 (recP b).1).2.1 (appendL path l3 T3 (recP b).1).2.2).2.1,(syncL path (appendL path l3 T3 (recP b).1).2.1 (appendL path l3 T3 (recP b).1).2.2).2.2,doneP s.L (lastD b)⟩)):=by
   unfold batX
   rw [if_neg he,hA]
   rfl
  have la:=lappendC hS.wl hT3 hb3 (by omega) (by omega) hs3.lo ⟨hs3.Ln,kl3⟩ hp (s:=(recP b).1) (by rw [erec];exact hrl) (by rw [erec];exact hrb) (by omega) (by omega)
  rcases haw:appendL path l3 T3 (recP b).1 with ⟨ew,lw,Tw⟩
  rw [haw] at la e
  dsimp only at la e
  have q3:=hs3.qc
  rw [e]
  try simp -dsimp (disch:=(repeat first | rw [nxn] | rw [nxp]);try omega) only [go_sem,q3]
  refine callK_of la ?_
  rintro r g4 ⟨rfl,hr4,hl4⟩
  obtain ⟨C4,hs4,gr4⟩:=hs3.step hT3 hC3 kl3 kq3 hr4 hl4
  have grr4:=gr3.trans gr4
  by_cases hw:ew≠0
  ·have c4:¬((ew:Nat):Int)=0:=by omega
   rw [if_pos hw]
   simp -dsimp (disch:=(repeat first | rw [nxn] | rw [nxp]);try omega) only [go_sem,c4]
   exact ⟨by first | trivial | rfl,C4,tv,t,hs4,grr4,tpGr hJ grr4 htv,hit,id⟩
  have c4:((ew:Nat):Int)=0:=by omega
  rw [if_neg hw]
  obtain ⟨K4,nm4,sm4,ch4,ρ4,hT4,hC4,kl4,kq4⟩:=hs4.tr
  have ly:=lsyncC hS.wl hT4 hs4.lo ⟨hs4.Ln,kl4⟩ hp
  rcases hyw:syncL path lw Tw with ⟨ey,lys,Ty⟩
  rw [hyw] at ly
  dsimp only at ly
  have q4:=hs4.qc
  simp -dsimp (disch:=(repeat first | rw [nxn] | rw [nxp]);try omega) only [go_sem,c4,q4]
  refine callK_of ly ?_
  rintro r g5 ⟨rfl,hr5,hl5⟩
  obtain ⟨C5,hs5,gr5⟩:=hs4.step hT4 hC4 kl4 kq4 hr5 hl5
  have grr5:=grr4.trans gr5
  by_cases hy:ey≠0
  ·have c5:¬((ey:Nat):Int)=0:=by omega
   rw [if_pos hy]
   simp -dsimp (disch:=(repeat first | rw [nxn] | rw [nxp]);try omega) only [go_sem,c5]
   exact ⟨by first | trivial | rfl,C5,tv,t,hs5,grr5,tpGr hJ grr5 htv,hit,id⟩
  have c5:((ey:Nat):Int)=0:=by omega
  rw [if_neg hy]
  have q5:=hs5.qc
  have Qn5:=hs5.Qn
  simp -dsimp (disch:=(repeat first | rw [nxn] | rw [nxp]);try omega) only [go_sem,c5]
  refine syDraw.keepN 12 (fun j=>j=Q) (by kernel_rfl) (by kernel_rfl) rfl ?_
  have fy:Fr g5 { tr:=g5.tr,nx:=g5.nx+13 }:=(Fr.refl g5).more _ (by omega)
  have hv5:=(psGr hv hvC grr5).1
  have ht5:=tpGr hJ grr5 htv
  have sT:=svT htv.shape
  have om:=otv
  unfold oneA at om
  simp -dsimp (disch:=(repeat first | rw [nxn] | rw [nxp]);try omega) only [go_sem,q5,otv,om,ov,sT,true_and,implies_true,svi,svb,svs,svq]
  refine callK_of (lastC hS.to.toTs (hv5.fr fy) (by omega)) ?_
  rintro w6 g6 ⟨hp6,f6⟩
  have n6:g5.nx+13≤g6.nx:=f6.nx
  refine ⟨fun j hj=>by rw [hj];exact f6.get _ (by show Q<g5.nx+13;omega),?_⟩
  have o6:=hp6.ln.2.2
  have hll:=last_len b
  try simp -dsimp (disch:=(repeat first | rw [nxn] | rw [nxp]);try omega) only [go_sem,otv,om,o6,true_and,implies_true,svi,svb,svs,svq]
  refine callK_of (doneC hS.to.toTb (K:=fun j=>C5 j+J j) ((ht5.fr fy).fr f6) (by rw [hit];exact hrt) (by omega) hp6 (by omega) (fun q hq=>by have:=(hpl q (last_mem hq)).1;omega) (fun j hj=>by
   have h1:=hs5.top j (by omega)
   have h2:=topJ j (Nat.le_trans grr5.nx (by omega))
   show C5 j+J j=0
   omega)) ?_
  rintro w7 g7 ⟨⟨a,t',rfl,hta,hino,hH⟩,f7⟩
  have n7:=f7.nx
  refine ⟨fun j hj=>by subst hj;exact f7.get _ (by omega),?_⟩
  have f57:=(fy.trans f6).trans f7
  have hs7:=hs5.fr f57
  have q7:=hs7.qc
  have fin:∀o:AV,SA C5 (g7.put Q (.cells [a,.ptr L 0,.int .i64 (gr:Nat)] true false)) p L Q path gr lys Ty a∧Gr C g C5 (g7.put Q (.cells [a,.ptr L 0,.int .i64 (gr:Nat)] true false))∧TpA (fun j=>C5 j+J j) (g7.put Q (.cells [a,.ptr L 0,.int .i64 (gr:Nat)] true false)) a t':=fun _ =>
   ⟨hs7.setQ a,(grr5.trans (grFr f57)).trans (grPut hs7.cq _),tpPut hta (by have:=hs7.cq;show C5 Q+J Q≠0;omega) _⟩
  obtain ⟨z1,z2,z3⟩:=fin a
  rw [hit] at hino
  rcases hta.shape with hsh | ⟨ia,hsh⟩
  all_goals
   subst hsh
   simp -dsimp (disch:=(repeat first | rw [nxn] | rw [nxp]);try omega) only [go_sem,q7]
   first | exact ⟨C5,_,t',z1,z2,z3,hino,hH⟩ | exact ⟨by first | trivial | rfl,C5,_,t',z1,z2,z3,hino,hH⟩
end
theorem bldSt (L gr:Nat):evBuild Tryz.prog 72 [(1,.ptr L 0),(2,.int .i64 (gr:Nat))]=some (.agg [.nilptr,.ptr L 0,.int .i64 (gr:Nat)]):=by kernel_rfl
def itX:KL (List Nat)→List (List Nat)→KL (List Nat):=List.foldl fun L x=>(tellP L x).1
theorem itX_take {s:List (List Nat)} {i:Nat} {x:List Nat} (h:s[i]? = some x):itX [] (s.take (i+1))=(tellP (itX [] (s.take i)) x).1:=by
 rw [List.take_add_one,h]
 unfold itX
 rw [List.foldl_append];rfl
theorem tellP_rise {L:KL (List Nat)} (h:riseP L) (s:List Nat):riseP (tellP L s).1:=by
 unfold tellP
 split
 ·exact trivial
 ·split
  ·rw [ofP_last];exact riseP_last _
  ·exact trivial
 ·split
  ·exact riseP_done _ h
  ·exact trivial
section
variable {S : Sums}
theorem openS (hS:Sw S) {C J:Nat→Nat} {h:AH} {p:Nat} {T:TT} (ht:TA C h p T) (hJ:∀j,C j≠0→J j≠0) (topJ:∀j,h.nx≤j→J j=0) {n c:Nat} (hb:Bm n c T) (hn:n≤15000) (hc:c<1152921504605000000) {path:Pth} (hp:checkS path=0) (hsz:∀i,valS T.now path=some i→(T.fil i).b.length≤1048576)
  {gr:Nat} {l:Lg} {s:List (List Nat)} {T':TT} {Lr:KL (List Nat)} (ee:openT path (tmpS++path) T=(some (l,s),0,T')) (et:telsX [] s=(Lr,0)) (hsl:s.length≤1000000) (hfit:∀x∈s,Fit x) (hln:∀i,(itX [] (s.take i)).length≤50000) :
  RnC Tryz.prog S 9 [.ptr p 0,.str path,.int .i64 (gr:Nat)] h fun r h'=>∃C' L Q tv t,r=.tup [.ptr Q 0,.int .i64 0]∧SA C' h' p L Q path gr l T' tv∧Gr C h C' h'∧h.nx≤L∧h.nx≤Q∧TpA (fun j=>C' j+J j) h' tv t∧ino t=Lr∧riseP Lr∧Hp t:=by
 refine RnC.enter' Tryz.f9 _ 55 [.tmp 6,.tmp 7] (hS.nb _ _ _ (by simp)) bd9 Tryz.func9 rfl rfl rfl ?_
 obtain ⟨K,nm,sm,chv,ρ,hT,hC⟩:=ht.tr
 have c0:¬((gr:Nat):Int)<0:=by omega
 simp -dsimp (disch:=(repeat first | rw [nxn] | rw [nxp]);try omega) only [go_sem,c0]
 refine callK_of (openC hS.wl hT hb hn hc hp hsz) ?_
 rw [ee]
 rintro r h2 ⟨K',nm',sm',chv',ρ',hT',g,⟨hx,_⟩ | ⟨l2,s2,L,sv,e1,_,rfl,hL,Ln,hnL,kL,hx,hid⟩⟩
 ·cases hx
 cases e1
 dsimp only at hT'
 have osv:=hx.1.one.1
 have lsv:∀g,evLen Tryz.prog g #[66] sv=some (.int .i64 (s.length:Nat)):=fun g=>by have:=hx.1.len Tryz.underlying66 g;rwa [List.length_map] at this
 simp -dsimp (disch:=(repeat first | rw [nxn] | rw [nxp]);try omega) only [go_sem,osv,bldSt,lsv]
 generalize hg3:(h2.new (.cells [.nilptr,.ptr L 0,.int .i64 (gr:Nat)] true false))=h3
 have n3:h3.nx=h2.nx+1:=by rw [←hg3];rfl
 have f3:Fr h2 h3:=by rw [←hg3];exact Fr.new _ _
 have q3:h3.get h2.nx=some (.cells [.nilptr,.ptr L 0,.int .i64 (gr:Nat)] true false):=by rw [←hg3];exact AH.get_new_eq rfl
 have gn:=g.nx
 have z:∀j,C j=0→K j=0:=fun j hj=>Decidable.byContradiction fun hh=>hC j hh hj
 -- the colours
 obtain ⟨C',hC'⟩:∃C':Nat→Nat,C'=fun j=>if j=L∨j=h2.nx then 9 else K' j+C j:=⟨_,rfl⟩
 have cz:∀j,j≠L→j≠h2.nx→C' j=K' j+C j:=fun j h4 h5=>by rw [hC'];exact if_neg (fun hh=>hh.elim h4 h5)
 have cL:C' L=9:=by rw [hC'];exact if_pos (.inl rfl)
 have cQ:C' h2.nx=9:=by rw [hC'];exact if_pos (.inr rfl)
 have kQ:K' h2.nx=0:=hT'.top _ (Nat.le_refl _)
 have topC:∀j,h3.nx≤j→C' j=0:=fun j hj=>by
  rw [cz j (by omega) (by omega),hT'.top j (by omega),ht.top j (by omega)]
 have topJ':∀j,h3.nx≤j→C' j+J j=0:=fun j hj=>by rw [topC j hj,topJ j (by omega)]
 have fin:∀(hE:AH) (a:AV) (t:Tp),h3.nx≤hE.nx→(∀j,j<h3.nx→j≠h2.nx→hE.get j=h3.get j)→hE.get h2.nx=some (.cells [a,.ptr L 0,.int .i64 (gr:Nat)] true false)→SA C' hE p L h2.nx path gr l T' a∧Gr C h C' hE:=fun hE a t hnE hoE hqE=>by
  have ho2:∀j,j<h2.nx→hE.get j=h2.get j:=fun j hj=>(hoE j (by omega) (by omega)).trans (f3.get j hj)
  refine ⟨⟨⟨K',nm',sm',chv',ρ',hT'.mono (fun j hj=>ho2 j (hT'.lt hj)) (by omega),fun j hj=>?_,kL,kQ⟩,fun j hj=>topC j (by omega),(ho2 L Ln).trans hL,by omega,hqE,by omega,by omega,by omega,by omega⟩,by omega,fun j hj hk=>?_⟩
  ·by_cases h4:j=L
   ·rw [h4,cL];decide
   ·by_cases h5:j=h2.nx
    ·rw [h5,cQ];decide
    ·rw [cz j h4 h5];omega
  ·have h4:=g.get j hj (z j hk)
   exact ⟨(ho2 j (by omega)).trans h4.1,by rw [cz j (by omega) (by omega),h4.2,hk]⟩
 refine loopK_of (RnL.rounds (Q:=fun ex u=>ex=.exit 0∧u.d=[]∧u.t.get 11=some (.ptr h2.nx 0)∧h3.nx≤u.h.nx∧(∀j,j<h3.nx→j≠h2.nx→u.h.get j=h3.get j)∧∃a t,u.h.get h2.nx=some (.cells [a,.ptr L 0,.int .i64 (gr:Nat)] true false)∧TpA (fun j=>C' j+J j) u.h a t∧ino t=Lr∧riseP (ino t)∧Hp t)
  (fun m u=>u.d=[]∧u.t.get 11=some (.ptr h2.nx 0)∧u.t.get 30=some sv∧u.t.get 31=some (.int .i64 (s.length:Nat))∧h3.nx≤u.h.nx∧(∀j,j<h3.nx→j≠h2.nx→u.h.get j=h3.get j)∧∃(i:Nat) (a:AV) (t:Tp),u.t.get 32=some (.int .i64 (i:Nat))∧u.h.get h2.nx=some (.cells [a,.ptr L 0,.int .i64 (gr:Nat)] true false)∧TpA (fun j=>C' j+J j) u.h a t∧ino t=itX [] (s.take i)∧riseP (ino t)∧Hp t∧telsX (ino t) (s.drop i)=(Lr,0)∧i≤s.length∧m=s.length-i) ?_ s.length ?_) ?_
 ·rintro m ⟨tt,gx,d⟩ ⟨e9,t11,t30,t31,hnx,hox,i,a,t,t32,hqx,hta,hit,hrt,hH,htl,hi,rfl⟩
  dsimp only at e9 t11 t30 t31 t32 hnx hox hqx hta
  subst e9
  have oa:=hta.one.1
  by_cases c4:(i:Int)<(s.length:Nat)
  ·have hil:i<s.length:=by omega
   obtain ⟨x,hxi⟩:∃x,s[i]? = some x:=⟨_,List.getElem?_eq_getElem hil⟩
   have hd:s.drop i=x::s.drop (i+1):=by
    rw [List.drop_eq_getElem_cons hil]
    rw [List.getElem?_eq_getElem hil] at hxi
    cases hxi;rfl
   have hst:=itX_take hxi
   rw [hd] at htl
   unfold telsX at htl
   have h0:(tellP (ino t) x).2=0:=by
    by_cases hh:(tellP (ino t) x).2=0
    ·exact hh
    ·rw [if_pos hh] at htl
     rw [htl]
   rw [if_neg (fun hh=>hh h0)] at htl
   obtain ⟨idx,ofx,cx,csx,ox',tx,rfl,hgx2,hix2,hcx⟩:=Tx.get hx hxi
   have hgx:gx.get idx=_:=(hox idx (by omega) (by omega)).trans ((f3.get idx hix2).trans hgx2)
   have hts:t.size≤50000:=by rw [Tp.size_eq,hit];exact hln i
   simp -dsimp (disch:=(repeat first | rw [nxn] | rw [nxp]);try omega) only [go_sem,c4,t11,t30,t31,t32,hil,hgx,hcx,hqx,oa,Nat.mul_one]
   refine callK_of (tellC hS.to hta hrt (by omega) (hfit x (List.mem_iff_getElem?.2 ⟨i,hxi⟩)) fun j hj=>topJ' j (by omega)) ?_
   rintro w g5 ⟨⟨a5,t5,rfl,hta5,hit5,hH5⟩,f5⟩
   have n5:=f5.nx
   have hq5:g5.get h2.nx=_:=(f5.get _ (by omega)).trans hqx
   have c0e:(((tellP (ino t) x).2:Nat):Int)=0:=by omega
   have keep5:TpA (fun j=>C' j+J j) (g5.put h2.nx (.cells [a5,.ptr L 0,.int .i64 (gr:Nat)] true false)) a5 t5:=tpPut hta5 (by show C' h2.nx+J h2.nx≠0;rw [cQ];omega) _
   have ho5:∀j,j<h3.nx→j≠h2.nx→(g5.put h2.nx (.cells [a5,.ptr L 0,.int .i64 (gr:Nat)] true false)).get j=h3.get j:=fun j hj hne=>(AH.get_put_ne hne).trans ((f5.get j (by omega)).trans (hox j hj hne))
   have hr5:riseP (ino t5):=by rw [hit5];exact tellP_rise hrt x
   have hi5:ino t5=itX [] (s.take (i+1)):=by rw [hst,←hit];exact hit5
   rw [←hit5] at htl
   rcases hta5.shape with hsh | ⟨ia,hsh⟩
   all_goals
    subst hsh
    simp -dsimp (disch:=(repeat first | rw [nxn] | rw [nxp]);try omega) only [go_sem,hq5,c0e,t11,t30,t31,t32]
    exact ⟨s.length-(i+1),by omega,trivial,trivial,trivial,trivial,(by show h3.nx≤g5.nx;omega),ho5,i+1,_,t5,rfl,by first | rfl | exact AH.get_put_eq rfl,keep5,hi5,hr5,hH5 hH,htl,by omega,rfl⟩
  ·have:i=s.length:=by omega
   subst this
   rw [List.drop_length] at htl
   have hLr:ino t=Lr:=by
    have:telsX (ino t) []=(ino t,0):=rfl
    rw [this] at htl
    exact (Prod.mk.inj htl).1
   simp -dsimp (disch:=(repeat first | rw [nxn] | rw [nxp]);try omega) only [go_sem,c4,t11,t30,t31,t32,osv]
   exact ⟨trivial,trivial,trivial,hnx,hox,a,t,hqx,hta,hLr,hrt,hH⟩
 ·simp -dsimp (disch:=(repeat first | rw [nxn] | rw [nxp]);try omega) only [go_sem]
  exact ⟨trivial,trivial,trivial,trivial,Nat.le_refl _,fun j _ _=>by first | rfl | trivial,0,.nilptr,.nil,rfl,q3,rfl,rfl,trivial,trivial,et,Nat.zero_le _,rfl⟩
 ·rintro ex ⟨tt,gx,d⟩ ⟨rfl,rfl,t11,hnx,hox,a,t,hqx,hta,hit,hrt,hH⟩
  dsimp only at t11 hnx hox hqx hta
  obtain ⟨k1,k2⟩:=fin gx a t hnx hox hqx
  simp -dsimp (disch:=(repeat first | rw [nxn] | rw [nxp]);try omega) only [go_sem,t11]
  exact ⟨C',L,h2.nx,a,t,by first | trivial | rfl,k1,k2,hnL,gn,hta,hit,hit▸hrt,hH⟩
end
section
variable {S : Sums}
def Qc (h:AH) (Q:Nat) (tv:AV):Prop:=∃L g,h.get Q=some (.cells [tv,.ptr L 0,g] true false)∧Q<h.nx
theorem SA.qcc {C h p L Q path gr l T tv} (hs:SA C h p L Q path gr l T tv):Qc h Q tv:=⟨L,_,hs.qc,hs.Qn⟩
theorem Qc.fr {h h':AH} {Q:Nat} {tv:AV} (hq:Qc h Q tv) (f:Fr h h'):Qc h' Q tv:=let ⟨L,g,h1,h2⟩:=hq;⟨L,g,(f.get Q h2).trans h1,Nat.lt_of_lt_of_le h2 f.nx⟩
theorem Qc.gr {C C':Nat→Nat} {h h':AH} {Q:Nat} {tv:AV} (hq:Qc h Q tv) (g:Gr C h C' h') (hc:C Q=0):Qc h' Q tv:=let ⟨L,x,h1,h2⟩:=hq;⟨L,x,(g.get Q h2 hc).1.trans h1,Nat.lt_of_lt_of_le h2 g.nx⟩
theorem stableC (hS:Sw S) {K:Nat→Nat} {h:AH} {Q:Nat} {tv:AV} {t:Tp} (hq:Qc h Q tv) (htv:TpA K h tv t):RnC Tryz.prog S 12 [.ptr Q 0] h fun r h'=>r=.agg [tv]∧Fr h h':=by
 obtain ⟨L,g,hq,hn⟩:=hq
 refine RnC.enter' Tryz.f12 _ 12 [.cell 2 36] (hS.nb _ _ _ (by simp)) bd12 Tryz.func12 rfl rfl rfl ?_
 have q1:(h.new (.cells [.nilptr] true false)).get Q=_:=(AH.get_new_ne (Nat.ne_of_lt hn)).trans hq
 have d1:(h.new (.cells [.nilptr] true false)).get h.nx=some (.cells [.nilptr] true false):=AH.get_new_eq rfl
 simp -dsimp (disch:=(repeat first | rw [nxn] | rw [nxp]);try omega) only [go_sem]
 refine callK_of (srightC hS q1) ?_
 rintro r g1 ⟨rfl,rfl⟩
 rcases htv.shape with rfl | ⟨id,rfl⟩
 all_goals
  simp -dsimp (disch:=(repeat first | rw [nxn] | rw [nxp]);try omega) only [go_sem,q1,d1]
  exact ⟨by first | trivial | rfl,(Fr.new _ _).put _ (Nat.le_refl _)⟩
end
end Go.Proofs.YtaooopaemphfjaaGreatDoor.tbl
end