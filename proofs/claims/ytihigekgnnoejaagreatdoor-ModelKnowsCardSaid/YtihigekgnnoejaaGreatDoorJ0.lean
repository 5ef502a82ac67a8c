/- Texts joined: MJi, MLh. -/
import Derived.Test.YtihigekgnnoejaaGreatDoorFacts
import Derived.Test.YtihigekgnnoejaaGreatDoorH3
set_option maxRecDepth 100000
set_option linter.unusedVariables false
set_option linter.unusedSimpArgs false
set_option maxHeartbeats 32000000
section
namespace Go.Proofs.YtihigekgnnoejaaGreatDoor.mdl
open Go Go.Abs Go.Proofs
theorem zcSeen:zeroC Tryz.prog 46=some [.int .i64 0,.int .i64 0,.int .i64 0,.int .i64 0,.str [],.str [],.int .i64 0,.str [],.str [],.str [],.nilsl,.int .i64 0,.bool false,.int .i64 0,.int .i64 0,.nilsl,.str [],.str [],.nilsl,.int .i64 0,.bool false,.int .i64 0,.int .i64 0,.nilsl,.int .i64 0,.str [],.int .i64 0,.int .i64 0,.nilsl,.nilsl]:=by kernel_rfl
theorem zcAbs:zeroC Tryz.prog 28=some [.nilsl,.nilsl]:=by kernel_rfl
attribute [go_sem] zcSeen zcAbs
section
variable {S : Sums}
theorem lightSeensC (hS:Nx S) {h:AH} {v:AV} {l:List Se} (hv:Sl (fun _=>0) 30 (SaU h) h v l):RnC Tryz.prog S 6 [v,.int .i64 60,.int .i64 120] h fun r h'=>(∃b,r=.bool b∧(b=true→l.length≤60∧∀x∈l,lightS x))∧Fr h h':=by
 refine RnC.enter' Tryz.f6 _ 102 [.tmp 6] (hS.nx8 _ _ _ (by simp)) bd6 Tryz.func6 rfl rfl rfl ?_
 have lv:=fun g=>Sl.len (P:=Tryz.prog) hv Tryz.underlying22 g
 have ov:=hv.one.2
 have mv:=oneM ov
 simp (maxSteps:=9^9) -dsimp (disch:=repeat first|rw [nxn]|rw [nxp]|omega) only [go_sem,lv,ov,mv]
 refine loopK_of (RnL.rounds (Q:=fun ex u=>u.d=[]∧Fr h u.h∧(ex=.exit 0∧u.t.get 0=some v∧u.t.get 1=some (.int .i64 60)∧(l.length≤60→∀x∈l,lightS x)∨ex=.ret∧u.t.get 6=some (.bool false)))
  (fun m u=>u.d=[]∧Fr h u.h∧u.t.get 0=some v∧u.t.get 1=some (.int .i64 60)∧u.t.get 2=some (.int .i64 120)∧∃i:Nat,u.t.get 7=some (.int .i64 (i:Nat))∧i≤l.length∧i≤61∧(∀x∈l.take i,lightS x)∧m=l.length-i) ?_ l.length ?_) ?_
 ·rintro m ⟨tt,g,q⟩ ⟨e2,e1,g0,g1,g2,i,g7,hi,h13,hall,rfl⟩
  dsimp only at e1 e2 g0 g1 g2 g7
  subst e2
  by_cases c4:(i:Int)<(l.length:Nat)
  ·by_cases c5:(i:Int)≤60
   ·have hil:i<l.length:=by omega
    obtain ⟨x,hx⟩:∃x,l[i]? = some x:=⟨_,List.getElem?_eq_getElem hil⟩
    obtain ⟨id,off,cc,cs,o,t,ev,hgi,hidl,hk,hle,hE,_⟩:=Sl.at hv hx
    subst ev
    have hgx:=(e1.get id hidl).trans hgi
    obtain ⟨v1,d1,v2,d2,rw',rv,eC,h1,h2,h3,h4⟩:=hE.fr e1
    generalize hC:(cs.drop (off+i*30)).take 30=C at eC
    have p4:C[4]? = some (.str x.folder):=by rw [eC];rfl
    have p5:C[5]? = some (.str x.path):=by rw [eC];rfl
    have p7:C[7]? = some (.str x.dfolder):=by rw [eC];rfl
    have p8:C[8]? = some (.str x.dpath):=by rw [eC];rfl
    have p16:C[16]? = some (.str x.copy):=by rw [eC];rfl
    have p25:C[25]? = some (.str x.cfolder):=by rw [eC];rfl
    have p29:C[29]? = some rv:=by rw [eC];rfl
    have r9:(C.drop 9).take 7=[.str x.rc.path,v1,.int .i64 x.rc.own,.bool x.rc.gone,.int .i64 x.rc.size,.int .i64 x.rc.len,d1]:=by rw [eC];rfl
    have r17:(C.drop 17).take 7=[.str x.cp.path,v2,.int .i64 x.cp.own,.bool x.cp.gone,.int .i64 x.cp.size,.int .i64 x.cp.len,d2]:=by rw [eC];rfl
    have r27:(C.drop 27).take 2=[.int .i64 x.mt.own,rw']:=by rw [eC];rfl
    have cl:C.length=30:=by rw [eC];rfl
    have l5:5≤C.length:=by omega
    have l6:6≤C.length:=by omega
    have l8:8≤C.length:=by omega
    have l9:9≤C.length:=by omega
    have l16:16≤C.length:=by omega
    have l17:17≤C.length:=by omega
    have l24:24≤C.length:=by omega
    have l26:26≤C.length:=by omega
    have l29:29≤C.length:=by omega
    have l30:30≤C.length:=by omega
    obtain ⟨_,_,eq1,fa,fb⟩:=h1.fr (Fr.refl _)
    simp only [List.cons.injEq,and_true,true_and] at eq1
    obtain ⟨rfl,rfl⟩:=eq1
    obtain ⟨_,_,eq1,fc,fd⟩:=h2.fr (Fr.refl _)
    simp only [List.cons.injEq,and_true,true_and] at eq1
    obtain ⟨rfl,rfl⟩:=eq1
    have hco:C.all oneA=true:=by
     rw [eC]
     simp only [List.all_cons,List.all_nil,fa.one.2,fb.one.2,fc.one.2,fd.one.2,h3.one.2,h4.one.2,Bool.true_and,Bool.and_true]
     simp [oneA]
    have orv:=h4.one.2
    have mrv:=oneM orv
    clear eC fa fb fc fd
    have fw:Fr h ((g.new (.cells [AV.int IntKind.i64 0,AV.int IntKind.i64 0,AV.int IntKind.i64 0,AV.int IntKind.i64 0,AV.str [],AV.str [],AV.int IntKind.i64 0,AV.str [],AV.str [],AV.str [],AV.nilsl,AV.int IntKind.i64 0,AV.bool false,AV.int IntKind.i64 0,AV.int IntKind.i64 0,AV.nilsl,AV.str [],AV.str [],AV.nilsl,AV.int IntKind.i64 0,AV.bool false,AV.int IntKind.i64 0,AV.int IntKind.i64 0,AV.nilsl,AV.int IntKind.i64 0,AV.str [],AV.int IntKind.i64 0,AV.int IntKind.i64 0,AV.nilsl,AV.nilsl] true false)).put g.nx (.cells C true false)):=(e1.trans (Fr.new _ _)).put _ e1.nx
    have fg:Fr g ((g.new (.cells [AV.int IntKind.i64 0,AV.int IntKind.i64 0,AV.int IntKind.i64 0,AV.int IntKind.i64 0,AV.str [],AV.str [],AV.int IntKind.i64 0,AV.str [],AV.str [],AV.str [],AV.nilsl,AV.int IntKind.i64 0,AV.bool false,AV.int IntKind.i64 0,AV.int IntKind.i64 0,AV.nilsl,AV.str [],AV.str [],AV.nilsl,AV.int IntKind.i64 0,AV.bool false,AV.int IntKind.i64 0,AV.int IntKind.i64 0,AV.nilsl,AV.int IntKind.i64 0,AV.str [],AV.int IntKind.i64 0,AV.int IntKind.i64 0,AV.nilsl,AV.nilsl] true false)).put g.nx (.cells C true false)):=(Fr.new _ _).put _ (Nat.le_refl _)
    have qw:((g.new (.cells [AV.int IntKind.i64 0,AV.int IntKind.i64 0,AV.int IntKind.i64 0,AV.int IntKind.i64 0,AV.str [],AV.str [],AV.int IntKind.i64 0,AV.str [],AV.str [],AV.str [],AV.nilsl,AV.int IntKind.i64 0,AV.bool false,AV.int IntKind.i64 0,AV.int IntKind.i64 0,AV.nilsl,AV.str [],AV.str [],AV.nilsl,AV.int IntKind.i64 0,AV.bool false,AV.int IntKind.i64 0,AV.int IntKind.i64 0,AV.nilsl,AV.int IntKind.i64 0,AV.str [],AV.int IntKind.i64 0,AV.int IntKind.i64 0,AV.nilsl,AV.nilsl] true false)).put g.nx (.cells C true false)).get g.nx=some (.cells C true false):=AH.get_put_eq rfl
    have n3:((g.new (.cells [AV.int IntKind.i64 0,AV.int IntKind.i64 0,AV.int IntKind.i64 0,AV.int IntKind.i64 0,AV.str [],AV.str [],AV.int IntKind.i64 0,AV.str [],AV.str [],AV.str [],AV.nilsl,AV.int IntKind.i64 0,AV.bool false,AV.int IntKind.i64 0,AV.int IntKind.i64 0,AV.nilsl,AV.str [],AV.str [],AV.nilsl,AV.int IntKind.i64 0,AV.bool false,AV.int IntKind.i64 0,AV.int IntKind.i64 0,AV.nilsl,AV.int IntKind.i64 0,AV.str [],AV.int IntKind.i64 0,AV.int IntKind.i64 0,AV.nilsl,AV.nilsl] true false)).put g.nx (.cells C true false)).nx=g.nx+1:=rfl
    by_cases a1:(120:Int)<(x.folder.length:Nat)
    ·simp (maxSteps:=9^9) -dsimp (disch:=repeat first|rw [nxn]|rw [nxp]|omega) only [go_sem,List.append,c4,c5,g0,g1,g2,g7,lv,ov,mv,hil,hgx,hle,hC,cl,hco,evLenS,List.append,p4,l5,a1]
     exact ⟨trivial,fw,.inr ⟨trivial,trivial⟩⟩
    by_cases a2:(120:Int)<(x.path.length:Nat)
    ·simp (maxSteps:=9^9) -dsimp (disch:=repeat first|rw [nxn]|rw [nxp]|omega) only [go_sem,List.append,c4,c5,g0,g1,g2,g7,lv,ov,mv,hil,hgx,hle,hC,cl,hco,evLenS,List.append,p4,l5,p5,l6,a1,a2]
     exact ⟨trivial,fw,.inr ⟨trivial,trivial⟩⟩
    simp (maxSteps:=9^9) -dsimp (disch:=repeat first|rw [nxn]|rw [nxp]|omega) only [go_sem,List.append,c4,c5,g0,g1,g2,g7,lv,ov,mv,hil,hgx,hle,hC,cl,hco,evLenS,List.append,p4,l5,p5,l6,r9,l16,a1,a2]
    generalize (g.new (.cells [AV.int IntKind.i64 0,AV.int IntKind.i64 0,AV.int IntKind.i64 0,AV.int IntKind.i64 0,AV.str [],AV.str [],AV.int IntKind.i64 0,AV.str [],AV.str [],AV.str [],AV.nilsl,AV.int IntKind.i64 0,AV.bool false,AV.int IntKind.i64 0,AV.int IntKind.i64 0,AV.nilsl,AV.str [],AV.str [],AV.nilsl,AV.int IntKind.i64 0,AV.bool false,AV.int IntKind.i64 0,AV.int IntKind.i64 0,AV.nilsl,AV.int IntKind.i64 0,AV.str [],AV.int IntKind.i64 0,AV.int IntKind.i64 0,AV.nilsl,AV.nilsl] true false)).put g.nx (.cells C true false)=g3 at fw fg qw n3 ⊢
    refine callK_of (lightRC hS (h1.fr fg)) ?_
    rintro r g4 ⟨rfl,f4⟩
    cases hr1:lightR x.rc
    ·simp (maxSteps:=9^9) -dsimp (disch:=repeat first|rw [nxn]|rw [nxp]|omega) only [go_sem,hr1]
     exact ⟨trivial,fw.trans f4,.inr ⟨trivial,trivial⟩⟩
    have qw4:=(f4.get _ (by omega)).trans qw
    simp (maxSteps:=9^9) -dsimp (disch:=repeat first|rw [nxn]|rw [nxp]|omega) only [go_sem,hr1,g2,qw4,r17,l24]
    refine callK_of (lightRC hS ((h2.fr fg).fr f4)) ?_
    rintro r g5 ⟨rfl,f5⟩
    have n5:=f4.nx
    have qw5:=(f5.get _ (by omega)).trans qw4
    have fw5:=(fw.trans f4).trans f5
    cases hr2:lightR x.cp
    ·simp (maxSteps:=9^9) -dsimp (disch:=repeat first|rw [nxn]|rw [nxp]|omega) only [go_sem,hr2]
     exact ⟨trivial,fw5,.inr ⟨trivial,trivial⟩⟩
    by_cases a3:(120:Int)<(x.dfolder.length:Nat)
    ·simp (maxSteps:=9^9) -dsimp (disch:=repeat first|rw [nxn]|rw [nxp]|omega) only [go_sem,hr2,g2,qw5,p7,l8,evLenS,a3]
     exact ⟨trivial,fw5,.inr ⟨trivial,trivial⟩⟩
    by_cases a4:(120:Int)<(x.dpath.length:Nat)
    ·simp (maxSteps:=9^9) -dsimp (disch:=repeat first|rw [nxn]|rw [nxp]|omega) only [go_sem,hr2,g2,qw5,p7,l8,p8,l9,evLenS,a3,a4]
     exact ⟨trivial,fw5,.inr ⟨trivial,trivial⟩⟩
    by_cases a5:(120:Int)<(x.copy.length:Nat)
    ·simp (maxSteps:=9^9) -dsimp (disch:=repeat first|rw [nxn]|rw [nxp]|omega) only [go_sem,hr2,g2,qw5,p7,l8,p8,l9,p16,l17,evLenS,a3,a4,a5]
     exact ⟨trivial,fw5,.inr ⟨trivial,trivial⟩⟩
    by_cases a6:(120:Int)<(x.cfolder.length:Nat)
    ·simp (maxSteps:=9^9) -dsimp (disch:=repeat first|rw [nxn]|rw [nxp]|omega) only [go_sem,hr2,g2,qw5,p7,l8,p8,l9,p16,l17,p25,l26,evLenS,a3,a4,a5,a6]
     exact ⟨trivial,fw5,.inr ⟨trivial,trivial⟩⟩
    simp (maxSteps:=9^9) -dsimp (disch:=repeat first|rw [nxn]|rw [nxp]|omega) only [go_sem,hr2,g2,qw5,p7,l8,p8,l9,p16,l17,p25,l26,r27,l29,evLenS,a3,a4,a5,a6]
    refine callK_of (lightMC hS (((h3.gk (fg.gk _) fun _ _ h=>h.fr fg).gk (f4.gk _) fun _ _ h=>h.fr f4).gk (f5.gk _) fun _ _ h=>h.fr f5)) ?_
    rintro r g6 ⟨⟨bm,rfl,hbm⟩,f6⟩
    have n6:=f5.nx
    have qw6:=(f6.get _ (by omega)).trans qw5
    have fw6:=fw5.trans f6
    cases bm
    ·simp (maxSteps:=9^9) -dsimp (disch:=repeat first|rw [nxn]|rw [nxp]|omega) only [go_sem]
     exact ⟨trivial,fw6,.inr ⟨trivial,trivial⟩⟩
    simp (maxSteps:=9^9) -dsimp (disch:=repeat first|rw [nxn]|rw [nxp]|omega) only [go_sem,g2,qw6,p29,l30,orv,mrv]
    refine callK_of (lightRsC hS ((((h4.gk (fg.gk _) fun _ _ h=>h.fr fg).gk (f4.gk _) fun _ _ h=>h.fr f4).gk (f5.gk _) fun _ _ h=>h.fr f5).gk (f6.gk _) fun _ _ h=>h.fr f6)) ?_
    rintro r gz ⟨⟨br,rfl,hbr⟩,f7⟩
    have fw7:=fw6.trans f7
    cases br
    ·simp (maxSteps:=9^9) -dsimp (disch:=repeat first|rw [nxn]|rw [nxp]|omega) only [go_sem]
     exact ⟨trivial,fw7,.inr ⟨trivial,trivial⟩⟩
    simp (maxSteps:=9^9) -dsimp (disch:=repeat first|rw [nxn]|rw [nxp]|omega) only [go_sem,g0,g1,g2,g7]
    exact ⟨l.length-(i+1),by omega,trivial,fw7,trivial,trivial,trivial,i+1,rfl,by omega,by omega,fun r hr'=>(by
      rw [List.take_add_one,hx] at hr'
      rcases List.mem_append.1 hr' with h1 | h1
      ·exact hall r h1
      ·simp at h1;rw [h1];exact ⟨hr1,hr2,hbm rfl,hbr rfl⟩),rfl⟩
   ·simp (maxSteps:=9^9) -dsimp (disch:=repeat first|rw [nxn]|rw [nxp]|omega) only [go_sem,c4,c5,g0,g1,g2,g7,lv,ov,mv]
    exact ⟨trivial,e1,.inl ⟨trivial,trivial,trivial,fun hh=>absurd hh (by omega)⟩⟩
  ·obtain rfl:i=l.length:=by omega
   rw [List.take_length] at hall
   simp (maxSteps:=9^9) -dsimp (disch:=repeat first|rw [nxn]|rw [nxp]|omega) only [go_sem,c4,g0,g1,g2,g7,lv,ov,mv]
   exact ⟨trivial,e1,.inl ⟨trivial,trivial,trivial,fun _=>hall⟩⟩
 ·simp (maxSteps:=9^9) -dsimp (disch:=repeat first|rw [nxn]|rw [nxp]|omega) only [go_sem]
  exact ⟨trivial,Fr.refl _,trivial,trivial,trivial,0,rfl,Nat.zero_le _,by decide,fun r hr=>(by simp at hr),rfl⟩
 ·rintro ex ⟨tt,g,q⟩ ⟨rfl,e1,⟨rfl,g0,g1,hall⟩ | ⟨rfl,t6⟩⟩
  ·dsimp only at e1 g0 g1
   by_cases h1:(l.length:Int)≤60
   ·simp (maxSteps:=9^9) -dsimp (disch:=repeat first|rw [nxn]|rw [nxp]|omega) only [go_sem,g0,g1,lv,ov,mv,h1]
    exact ⟨⟨_,rfl,fun _=>⟨by omega,hall (by omega)⟩⟩,e1⟩
   ·simp (maxSteps:=9^9) -dsimp (disch:=repeat first|rw [nxn]|rw [nxp]|omega) only [go_sem,g0,g1,lv,ov,mv,h1]
    exact ⟨⟨_,rfl,fun hh=>(by cases hh)⟩,e1⟩
  ·dsimp only at e1 t6
   simp (maxSteps:=9^9) -dsimp (disch:=repeat first|rw [nxn]|rw [nxp]|omega) only [go_sem,t6]
   exact ⟨⟨_,rfl,fun hh=>(by cases hh)⟩,e1⟩
end
end Go.Proofs.YtihigekgnnoejaaGreatDoor.mdl
end