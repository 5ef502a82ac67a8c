/- Texts joined: MLi. -/
import Derived.Test.YtihigekgnnoejaaGreatDoorJ0
import Derived.Test.YtihigekgnnoejaaGreatDoorH9
import Derived.Test.YtihigekgnnoejaaGreatDoorJ1
set_option maxRecDepth 100000
set_option linter.unusedVariables false
set_option linter.unusedSimpArgs false
set_option maxHeartbeats 64000000
section
namespace Go.Proofs.YtihigekgnnoejaaGreatDoor.mdl
open Go Go.Abs Go.Proofs
structure Nz (S:Sums):Prop extends Nw S,Nx S where
 lives:∀h,S 5 [] h=some (.bool true,h)
 nz27:∀f args h,f∈[3,4]→S f args h=none
theorem bldAbs:evBuild Tryz.prog 28 []=some (.agg [.nilsl,.nilsl]):=by kernel_rfl
theorem szM.mono {m:Mt} {a b:Nat} (h:szM m a) (hab:a≤b):szM m b:=⟨Nat.le_trans h.1 hab,fun r hr=>Nat.le_trans (h.2 r hr) hab⟩
def K9 (q j:Nat):Nat:=if j=q then 9 else 0
theorem sag2 {K:Nat→Nat} {h:AH} {hv sv:AV} {l:List Hd} {s:List Mt} (hH:Hs K h hv l) (hM:Ms K h sv s):sameAV 20 (.agg [hv,sv]) (.agg [hv,sv])=true:=by
 rcases Sl.shape hH.1 with ⟨rfl,_⟩ | ⟨_,_,_,rfl⟩ <;> rcases Sl.shape hM.1 with ⟨rfl,_⟩ | ⟨_,_,_,rfl⟩ <;> simp [sameAV,Go.Abs.sameL]
theorem K9_ne {q j:Nat} (h:j≠q):K9 q j=0:=if_neg h
theorem K9_eq {q:Nat}:K9 q q=9:=if_pos rfl
theorem K9_or (q j:Nat):K9 q j=0∨K9 q j=9:=by
 unfold K9;split
 ·exact .inr rfl
 ·exact .inl rfl
section
variable {S : Sums}
theorem growsC (hS:Nz S) {h:AH} {v:AV} {L:List Se} (hv:Sl (fun _=>0) 30 (SaU h) h v L):RnC Tryz.prog S 3 [v] h fun r _=>r=.bool true:=by
 refine RnC.enter' Tryz.f3 _ 119 [.tmp 2] (hS.nz27 _ _ _ (by simp)) bd3 Tryz.func3 rfl rfl rfl ?_
 have lv:=fun g=>Sl.len (P:=Tryz.prog) hv Tryz.underlying22 g
 have ov:=hv.one.2
 have mv:=ov;unfold oneA at mv
 simp (maxSteps:=9^9) -dsimp (disch:=repeat first | rw [nxn] | rw [nxp] | omega) only [go_sem,ov,mv]
 refine callK_of (RnC.sum (hS.lives _) (Q:=fun r h'=>r=.bool true∧h'=h) ⟨rfl,rfl⟩) ?_
 rintro r g0 ⟨rfl,rfl⟩
 simp (maxSteps:=9^9) -dsimp (disch:=repeat first | rw [nxn] | rw [nxp] | omega) only [go_sem,ov,mv]
 refine callK_of (lightSeensC hS.toNx hv) ?_
 rintro r g1 ⟨⟨b,rfl,hb⟩,f1⟩
 cases b
 ·simp (maxSteps:=9^9) -dsimp (disch:=repeat first | rw [nxn] | rw [nxp] | omega) only [go_sem]
 obtain ⟨hL60,hall⟩:=hb rfl
 have hL:Sl (fun _=>0) 30 (Sa (fun _=>0) g0) g0 v L:=sl_on hv fun cs x hx h=>h.sa (hall x hx)
 simp (maxSteps:=9^9) -dsimp (disch:=repeat first | rw [nxn] | rw [nxp] | omega) only [go_sem,bldAbs]
 generalize hg:(g1.new (.cells [.nilsl,.nilsl] true false)).put g1.nx (.cells [.nilsl,.nilsl] true false)=g2
 have f12:Fr g1 g2:=by rw [←hg];exact (Fr.new _ _).put _ (Nat.le_refl _)
 have n2:g2.nx=g1.nx+1:=by rw [←hg];rfl
 have q2:g2.get g1.nx=some (.cells [.nilsl,.nilsl] true false):=by rw [←hg];exact AH.get_put_eq rfl
 clear hg
 generalize hWe:g1.nx=W at n2 q2 ⊢
 have n1:=f1.nx
 refine loopK_of (RnL.rounds (Q:=fun ex u=>u.d=[]∧ex=.exit 0)
  (fun k u=>u.d=[]∧Fr g1 u.h∧W<u.h.nx∧u.t.get 0=some v∧u.t.get 3=some (.ptr W 0)∧∃(i:Nat) (l:List Hd) (s:List Mt) (hw sw:AV),u.t.get 4=some (.int .i64 (i:Nat))∧i≤L.length∧u.h.get W=some (.cells [hw,sw] true false)∧Hs (K9 W) u.h hw l∧Ms (K9 W) u.h sw s∧InvX 0 (20*i) l∧SB (120+i) s∧k=L.length-i) ?_ L.length ?_) ?_
 ·rintro k ⟨tt,g,d⟩ ⟨e2,e1,hW,t0,t3,i,l,s,hw,sw,t4,hi,b0,hH,hM,hI,hB,rfl⟩
  dsimp only at e1 e2 hW t0 t3 t4 b0 hH hM
  subst e2
  by_cases c4:(i:Int)<(L.length:Nat)
  ·have hil:i<L.length:=by omega
   obtain ⟨x,hx⟩:∃x,L[i]? = some x:=⟨_,List.getElem?_eq_getElem hil⟩
   have hxl:=hall x (List.mem_of_getElem? hx)
   obtain ⟨id,off,cc,cs,o,t,ev,hgi,hidl,hk,hle,hE,_⟩:=Sl.at hL hx
   subst ev
   have hgx:=(e1.get id (by omega)).trans ((f1.get id hidl).trans hgi)
   generalize hC:(cs.drop (off+i*30)).take 30=C at hE
   obtain ⟨lhw,shw,ohw⟩:=hH.ln
   obtain ⟨lsw,ssw,osw⟩:=hM.ln
   have mhw:=ohw;unfold oneA at mhw
   have msw:=osw;unfold oneA at msw
   have hCs:=hE.sv
   simp (maxSteps:=9^9) -dsimp (disch:=repeat first | rw [nxn] | rw [nxp] | omega) only [go_sem,c4,t0,t3,t4,lv,ov,mv]
   refine syDraw.keepN 10 (fun j=>j=W∨j=id) (by kernel_rfl) (by kernel_rfl) rfl ?_
   have fA:Fr g { tr:=g.tr,nx:=g.nx+12 }:=(Fr.refl g).more _ (by omega)
   simp (maxSteps:=9^9) -dsimp (disch:=repeat first | rw [nxn] | rw [nxp] | omega) only [go_sem,b0,t0,t3,t4,hil,hgx,hle,hC,ohw,osw,mhw,msw,shw,ssw,true_and,true_or,or_true,implies_true,svi,svb,svs,svp,hCs]
   refine ⟨sag2 hH hM,?_⟩
   have hK1:∀j,g.nx+12≤j→kq (K9 W) (g.nx+9) j=0:=fun j hj=>(kq_ne (by omega)).trans (K9_ne (by omega))
   have hK9:=kq9 (K9_or W) (g.nx+9)
   have hc1:∀j,j<g.nx→K9 W j=0→kq (K9 W) (g.nx+9) j=0:=fun j hj hk=>(kq_ne (by omega)).trans hk
   have hH1:=(hH.col hc1).fr fA
   have hM1:=(hM.col hc1).fr fA
   have hE1:=(((hE.col (K':=kq (K9 W) (g.nx+9)) fun j hj _=>(kq_ne (by have:=e1.nx;omega)).trans (K9_ne (by omega))).fr f1).fr e1).fr fA
   have hsz:=hxl.sz
   refine callK_of (stepC hS.toNw (invX l.length) hK1 hK9 hH1 hM1 hE1 ⟨Nat.le_refl _,hI.hi,hI.tot,hI.srt,hI.ok⟩ hB (by omega) (by omega) (hsz.1.mono (by omega)) hsz.2) ?_
   rintro r g2 ⟨hw',sw',l',s',why,rfl,hH2,hM2,f2,hok,hno,_⟩
   have n2:g.nx+12≤g2.nx:=f2.nx
   refine ⟨fun j hj=>f2.get j (by show j<g.nx+12;have:=e1.nx;rcases hj with rfl | rfl <;> omega),?_⟩
   have ohw':=hH2.ln.2.2
   have osw':=hM2.ln.2.2
   have mhw':=ohw';unfold oneA at mhw'
   have msw':=osw';unfold oneA at msw'
   have sg2:=sag2 hH2 hM2
   simp (maxSteps:=9^9) -dsimp (disch:=repeat first | rw [nxn] | rw [nxp] | omega) only [go_sem,ohw',osw',mhw',msw',sg2,true_and,true_or,or_true,implies_true,svi,svb,svs,svp]
   simp only [absorb_nil]
   have hX:kq (K9 W) (g.nx+9) (g.nx+9)≠0:=by rw [kq_eq];decide
   have gk3:Gk (kq (K9 W) (g.nx+9)) g2 ((g2.put (g.nx+9) (.cells [.nilsl,.nilsl] true false)).put (g.nx+9) (.cells [hw',sw'] true false)):=((Gk.refl _ _).put (.inl hX) _).put (.inl hX) _
   have x3:((g2.put (g.nx+9) (.cells [.nilsl,.nilsl] true false)).put (g.nx+9) (.cells [hw',sw'] true false)).get (g.nx+9)=some (.cells [hw',sw'] true false):=AH.get_put_eq rfl
   have f3:Fr g ((g2.put (g.nx+9) (.cells [.nilsl,.nilsl] true false)).put (g.nx+9) (.cells [hw',sw'] true false)):=((fA.trans f2).put _ (by omega)).put _ (by omega)
   have n3:((g2.put (g.nx+9) (.cells [.nilsl,.nilsl] true false)).put (g.nx+9) (.cells [hw',sw'] true false)).nx=g2.nx:=rfl
   generalize (g2.put (g.nx+9) (.cells [.nilsl,.nilsl] true false)).put (g.nx+9) (.cells [hw',sw'] true false)=g3 at gk3 x3 f3 n3 ⊢
   have b3:=(f3.get W hW).trans b0
   have hH3:=hH2.gk gk3
   have hM3:=hM2.gk gk3
   have e3:=e1.trans f3
   by_cases hw0:why=0
   ·have hwb:decide (why=0)=true:=decide_eq_true hw0
    obtain ⟨hI',hB'⟩:=hok hw0
    simp (maxSteps:=9^9) -dsimp (disch:=repeat first | rw [nxn] | rw [nxp] | omega) only [go_sem,hwb]
    refine loopK_of (RnL.rounds (Q:=fun ex u=>u.d=[]∧ex=.exit 2∧Fr g3 u.h∧u.t.get 0=some (.sl id off L.length 30 cc)∧u.t.get 3=some (.ptr W 0)∧u.t.get 4=some (.int .i64 (i:Nat))∧u.t.get 5=some (.ptr (g.nx+9) 0))
     (fun k u=>u.d=[]∧Fr g3 u.h∧u.t.get 0=some (.sl id off L.length 30 cc)∧u.t.get 3=some (.ptr W 0)∧u.t.get 4=some (.int .i64 (i:Nat))∧u.t.get 5=some (.ptr (g.nx+9) 0)∧∃n:Nat,u.t.get 7=some (.int .i64 (n:Nat))∧n≤l'.length∧k=l'.length-n) ?_ l'.length ?_) ?_
    ·rintro k ⟨t2,gg,dd⟩ ⟨w2,w1,s0,s3,s4,s5,n,s7,hn,rfl⟩
     dsimp only at w1 w2 s0 s3 s4 s5 s7
     subst w2
     have xg:=(w1.get _ (by omega)).trans x3
     have lhw':=hH3.ln.1
     by_cases c5:(n:Int)<(l'.length:Nat)
     ·have hnl:n<l'.length:=by omega
      obtain ⟨y,hy⟩:∃y,l'[n]? = some y:=⟨_,List.getElem?_eq_getElem hnl⟩
      have hyo:=hI'.ok y (List.mem_of_getElem? hy)
      have hnb:n<1000000:=by have:=hI'.hi;omega
      obtain ⟨iy,oy,cy,csy,oo,ty,nv,nd,pv,hvv,hgi,hidl,hley,hEy,hnv,hnd,hnp,hpv,_⟩:=hH3.el hy
      subst hvv
      have hgi:=(w1.get _ hidl).trans hgi
      have onv:=hnv.ln.2.2.2
      have ond:=hnd.ln.2.2
      obtain ⟨lpv,spv,opv⟩:=hpv.ln
      have mnv:=onv;unfold oneA at mnv
      have mnd:=ond;unfold oneA at mnd
      have mpv:=opv;unfold oneA at mpv
      simp (maxSteps:=9^9) -dsimp (disch:=repeat first | rw [nxn] | rw [nxp] | omega) only [go_sem,c5,s0,s3,s4,s5,s7,xg,hnl,hgi,hley,hEy,onv,ond,opv,mnv,mnd,mpv,lhw',lpv]
      have fY:Fr gg ((gg.new (.cells [.int .i64 0,.str [],.str [],.str [],.nilsl,.int .i64 0,.bool false,.int .i64 0,.int .i64 0,.nilsl,.nilsl,.int .i64 0] true false)).put gg.nx (.cells [.int .i64 y.dev,.str y.folder,.str y.path,.str y.now.path,nv,.int .i64 y.now.own,.bool y.now.gone,.int .i64 y.now.size,.int .i64 y.now.len,nd,pv,.int .i64 (y.start:Nat)] true false)):=(Fr.new _ _).put _ (Nat.le_refl _)
      have qY:((gg.new (.cells [.int .i64 0,.str [],.str [],.str [],.nilsl,.int .i64 0,.bool false,.int .i64 0,.int .i64 0,.nilsl,.nilsl,.int .i64 0] true false)).put gg.nx (.cells [.int .i64 y.dev,.str y.folder,.str y.path,.str y.now.path,nv,.int .i64 y.now.own,.bool y.now.gone,.int .i64 y.now.size,.int .i64 y.now.len,nd,pv,.int .i64 (y.start:Nat)] true false)).get gg.nx=some (.cells [.int .i64 y.dev,.str y.folder,.str y.path,.str y.now.path,nv,.int .i64 y.now.own,.bool y.now.gone,.int .i64 y.now.size,.int .i64 y.now.len,nd,pv,.int .i64 (y.start:Nat)] true false):=AH.get_put_eq rfl
      have nY:((gg.new (.cells [.int .i64 0,.str [],.str [],.str [],.nilsl,.int .i64 0,.bool false,.int .i64 0,.int .i64 0,.nilsl,.nilsl,.int .i64 0] true false)).put gg.nx (.cells [.int .i64 y.dev,.str y.folder,.str y.path,.str y.now.path,nv,.int .i64 y.now.own,.bool y.now.gone,.int .i64 y.now.size,.int .i64 y.now.len,nd,pv,.int .i64 (y.start:Nat)] true false)).nx=gg.nx+1:=rfl
      generalize (gg.new (.cells [.int .i64 0,.str [],.str [],.str [],.nilsl,.int .i64 0,.bool false,.int .i64 0,.int .i64 0,.nilsl,.nilsl,.int .i64 0] true false)).put gg.nx (.cells [.int .i64 y.dev,.str y.folder,.str y.path,.str y.now.path,nv,.int .i64 y.now.own,.bool y.now.gone,.int .i64 y.now.size,.int .i64 y.now.len,nd,pv,.int .i64 (y.start:Nat)] true false)=g4 at fY qY nY ⊢
      have e4:=w1.trans fY
      have hst:=hyo.st
      have hpl:=hyo.pl
      have snv:=hnv.ln.2.2.1
      have snd':=hnd.ln.2.1
      have hed:∀g5,Fr g4 g5→Fr g3 g5:=fun g5 f=>e4.trans f
      by_cases hp:y.now.path=[]
      ·have hne:∀g,binA Tryz.prog g .neq 9 (.str y.now.path) (.str [])=some (.bool false):=fun g=>by rw [neStr];simp [hp]
       have hne2:∀g,binA Tryz.prog g .neq 9 (.str y.now.path) (.str (bytesOf { data:=#[] }))=some (.bool false):=hne
       refine syDraw.keep (fun j=>j=gg.nx) (by kernel_rfl) (by kernel_rfl) ?_
       have fB:Fr g4 { tr:=g4.tr,nx:=g4.nx+20 }:=(Fr.refl g4).more _ (by omega)
       simp (maxSteps:=9^9) -dsimp (disch:=repeat first | rw [nxn] | rw [nxp] | omega) only [go_sem,qY,s0,s3,s4,s5,s7,hne,hne2,true_and,true_or,or_true,implies_true,svi,svb,svs,svp]
       refine syDraw.keep (fun j=>j=gg.nx) (by kernel_rfl) (by kernel_rfl) ?_
       by_cases hge:(y.start:Int)≤(y.past.length:Nat)-2
       ·simp (maxSteps:=9^9) -dsimp (disch:=repeat first | rw [nxn] | rw [nxp] | omega) only [go_sem,qY,s0,s3,s4,s5,s7,hne,hne2,hge,true_and,true_or,or_true,implies_true,svi,svb,svs,svp]
        exact ⟨l'.length-(n+1),by omega,(e4.more _ (by omega)),n+1,rfl,by omega,rfl⟩
       ·simp (maxSteps:=9^9) -dsimp (disch:=repeat first | rw [nxn] | rw [nxp] | omega) only [go_sem,qY,s0,s3,s4,s5,s7,hne,hne2,hge,true_and,true_or,or_true,implies_true,svi,svb,svs,svp]
        exact ⟨l'.length-(n+1),by omega,(e4.more _ (by omega)),n+1,rfl,by omega,rfl⟩
      ·have hne:∀g,binA Tryz.prog g .neq 9 (.str y.now.path) (.str [])=some (.bool true):=fun g=>by rw [neStr];simp [hp]
       have hne2:∀g,binA Tryz.prog g .neq 9 (.str y.now.path) (.str (bytesOf { data:=#[] }))=some (.bool true):=hne
       have hla:=hyo.la hp
       obtain ⟨m,hm⟩:∃m,y.past.length=m+1:=by
        cases hq:y.past with
        | nil=>rw [hq] at hla;cases hla
        | cons a b=>exact ⟨b.length,rfl⟩
       have hxm:y.past[m]? = some y.now:=by
        rw [List.getLast?_eq_getElem?,hm] at hla
        simpa using hla
       have hem:((y.past.length:Nat):Int)-1=(m:Nat):=by omega
       have hml:m<y.past.length:=by omega
       have hl0:¬((y.past.length:Nat):Int)=0:=by omega
       obtain ⟨ip,op,cp,csp,oop,tp,evp,hgp,hipl,_,hlep,hEp,_⟩:=Sl.at hpv.1 hxm
       subst evp
       have hgp4:=(e4.get ip hipl).trans hgp
       have hn1:Ra (kq (K9 W) (g.nx+9)) g4 [.str y.now.path,nv,.int .i64 y.now.own,.bool y.now.gone,.int .i64 y.now.size,.int .i64 y.now.len,nd] y.now:=⟨nv,nd,rfl,hnv.fr e4,hnd.fr e4,hnp⟩
       have hn2:=hEp.fr e4
       generalize hcp:(csp.drop (op+m*7)).take 7=cp7 at hn2
       have hs1:=hn1.sv
       have hs2:=hn2.sv
       refine syDraw.keep (fun j=>j=gg.nx∨j=ip) (by kernel_rfl) (by kernel_rfl) ?_
       have fB:Fr g4 { tr:=g4.tr,nx:=g4.nx+20 }:=(Fr.refl g4).more _ (by omega)
       simp (maxSteps:=9^9) -dsimp (disch:=repeat first | rw [nxn] | rw [nxp] | omega) only [go_sem,qY,s0,s3,s4,s5,s7,hne,hne2,hem,hml,hl0,hgp4,hlep,hcp,hs1,hs2,onv,ond,opv,mnv,mnd,mpv,snv,snd',true_and,true_or,or_true,implies_true,svi,svb,svs,svp]
       refine ⟨spv,?_⟩
       refine callK_of (rSameC hS.toNx (hn1.fr fB) (hn2.fr fB)) ?_
       rintro r g5 ⟨rfl,f5⟩
       have f45:=fB.trans f5
       have n5:g4.nx+20≤g5.nx:=f5.nx
       refine ⟨fun j hj=>f5.get j (by show j<g4.nx+20;have:=e4.nx;rcases hj with rfl | rfl <;> omega),?_⟩
       have qY5:=(f45.get _ (by omega)).trans qY
       simp (maxSteps:=9^9) -dsimp (disch:=repeat first | rw [nxn] | rw [nxp] | omega) only [go_sem,true_and,true_or,or_true,implies_true,svi,svb,svs,svp]
       by_cases hge:(y.start:Int)≤(y.past.length:Nat)-2
       ·cases hgn:y.now.gone
        ·obtain ⟨k2,hk2⟩:∃k2,y.past.length=k2+2:=⟨y.past.length-2,by omega⟩
         obtain ⟨z,hz⟩:∃z,y.past[k2]? = some z:=⟨_,List.getElem?_eq_getElem (by omega)⟩
         have hem2:((y.past.length:Nat):Int)-2=(k2:Nat):=by omega
         have hkl:k2<y.past.length:=by omega
         have hge2:(y.start:Int)≤(k2:Nat):=by omega
         have hgr:=hyo.gr hp hgn k2 z hz (by omega) (by omega)
         obtain ⟨ip',op',cp',csp',oop',tp',evp',hgp',hipl',_,hlep',⟨zv,zd,hEz,hzv,hzd,hzp⟩,hjz⟩:=Sl.at hpv.1 hz
         cases evp'
         rw [hgp] at hgp'
         cases hgp'
         have hz1:=hjz 1 (by decide)
         rw [hEz] at hz1
         have hz1:csp[op+k2*7+1]? = some zv:=hz1
         have hlz:op+k2*7+1+1≤csp.length:=by omega
         have ozv:=hzv.ln.2.2.2
         have szv:=hzv.ln.2.2.1
         have mzv:=ozv;unfold oneA at mzv
         have hgp5:=(f45.get ip (by have:=e4.nx;omega)).trans hgp4
         refine syDraw.keep (fun j=>j=gg.nx∨j=ip) (by kernel_rfl) (by kernel_rfl) ?_
         have fC:Fr g5 { tr:=g5.tr,nx:=g5.nx+31 }:=(Fr.refl g5).more _ (by omega)
         simp (maxSteps:=9^9) -dsimp (disch:=repeat first | rw [nxn] | rw [nxp] | omega) only [go_sem,qY5,s0,s3,s4,s5,s7,hne,hne2,hge2,hgn,hem2,hkl,hgp5,hz1,hlz,ozv,szv,mzv,onv,ond,opv,mnv,mnd,mpv,snv,snd',spv,true_and,true_or,or_true,implies_true,svi,svb,svs,svp]
         refine callK_of (rCompareC hS.toNx (((hnv.fr e4).fr f45).fr fC) (((hzv.fr e4).fr f45).fr fC)) ?_
         rintro r g6 ⟨rfl,f6⟩
         have n6:g5.nx+31≤g6.nx:=f6.nx
         refine ⟨fun j hj=>f6.get j (by show j<g5.nx+31;have:=e4.nx;rcases hj with rfl | rfl <;> omega),?_⟩
         simp (maxSteps:=9^9) -dsimp (disch:=repeat first | rw [nxn] | rw [nxp] | omega) only [go_sem,s0,s3,s4,s5,s7,hgr,true_and,true_or,or_true,implies_true,svi,svb,svs,svp]
         exact ⟨l'.length-(n+1),by omega,((e4.trans f45).trans (fC.trans f6)),n+1,rfl,by omega,rfl⟩
        ·refine syDraw.keep (fun j=>j=gg.nx) (by kernel_rfl) (by kernel_rfl) ?_
         simp (maxSteps:=9^9) -dsimp (disch:=repeat first | rw [nxn] | rw [nxp] | omega) only [go_sem,qY5,s0,s3,s4,s5,s7,hne,hne2,hge,hgn,true_and,true_or,or_true,implies_true,svi,svb,svs,svp]
         exact ⟨l'.length-(n+1),by omega,((e4.trans f45).more _ (by omega)),n+1,rfl,by omega,rfl⟩
       ·refine syDraw.keep (fun j=>j=gg.nx) (by kernel_rfl) (by kernel_rfl) ?_
        simp (maxSteps:=9^9) -dsimp (disch:=repeat first | rw [nxn] | rw [nxp] | omega) only [go_sem,qY5,s0,s3,s4,s5,s7,hne,hne2,hge,true_and,true_or,or_true,implies_true,svi,svb,svs,svp]
        exact ⟨l'.length-(n+1),by omega,((e4.trans f45).more _ (by omega)),n+1,rfl,by omega,rfl⟩
     ·obtain rfl:n=l'.length:=by omega
      simp (maxSteps:=9^9) -dsimp (disch:=repeat first | rw [nxn] | rw [nxp] | omega) only [go_sem,c5,s0,s3,s4,s5,s7,xg,ohw',mhw',lhw']
      exact ⟨trivial,trivial,w1,trivial,trivial,trivial,trivial⟩
    ·simp (maxSteps:=9^9) -dsimp (disch:=repeat first | rw [nxn] | rw [nxp] | omega) only [go_sem,t0,t3,t4]
     exact ⟨trivial,Fr.refl _,trivial,trivial,trivial,trivial,0,rfl,Nat.zero_le _,rfl⟩
    ·rintro ex ⟨t2,gg,dd⟩ ⟨rfl,rfl,w1,s0,s3,s4,s5⟩
     dsimp only at w1 s0 s3 s4 s5
     have xg:=(w1.get _ (by omega)).trans x3
     have bg:=(w1.get _ (by omega)).trans b3
     have hgx2:=(w1.get id (by have:=f1.nx;have:=e3.nx;omega)).trans ((f3.get id (by have:=e1.nx;omega)).trans hgx)
     have lhw':=hH3.ln.1
     have hlo:=hI'.lo
     have hnl:¬((l'.length:Nat):Int)<(l.length:Nat):=by omega
     obtain ⟨v1,d1,v2,d2,rw',rv,eC,_⟩:=hE
     have c0:cs[off+i*30]? = some (.int .i64 x.kind):=by
      have:((cs.drop (off+i*30)).take 30)[0]? = some (.int .i64 x.kind):=by rw [hC,eC];rfl
      simpa using this
     have hle1:off+i*30+1≤cs.length:=by omega
     have hi1:i<1000000:=by omega
     cases hkk:decide (x.kind=2) <;>
     ·simp (maxSteps:=9^9) -dsimp (disch:=repeat first | rw [nxn] | rw [nxp] | omega) only [go_sem,s0,s3,s4,s5,hil,hgx2,hle,hle1,c0,hkk,xg,bg,lhw',lhw,ohw,osw,mhw,msw,ohw',osw',mhw',msw',hnl]
      have hW9:kq (K9 W) (g.nx+9) W≠0:=by rw [kq_ne (by omega),K9_eq];decide
      have gkW:Gk (kq (K9 W) (g.nx+9)) gg (gg.put W (.cells [hw',sw'] true false)):=(Gk.refl _ _).put (.inl hW9) _
      have hcW:∀j,j<(gg.put W (.cells [hw',sw'] true false)).nx→kq (K9 W) (g.nx+9) j=0→K9 W j=0:=fun j _ hj=>by
       by_cases h1:j=g.nx+9
       ·rw [h1];exact K9_ne (by omega)
       ·rwa [kq_ne h1] at hj
      exact ⟨L.length-(i+1),by omega,trivial,(e3.trans w1).put _ (by omega),by have:=w1.nx;omega,trivial,trivial,i+1,l',s',hw',sw',rfl,by omega,rfl,((hH3.fr w1).gk gkW).col hcW,((hM3.fr w1).gk gkW).col hcW,⟨Nat.zero_le _,by have:=hI'.hi;omega,by have:=hI'.tot;omega,hI'.srt,fun y hy=>(hI'.ok y hy).mono (by omega)⟩,hB',rfl⟩
   ·have hwb:decide (why=0)=false:=decide_eq_false hw0
    obtain ⟨rfl,rfl⟩:=hno hw0
    simp (maxSteps:=9^9) -dsimp (disch:=repeat first | rw [nxn] | rw [nxp] | omega) only [go_sem,hwb,t3,x3,b3,ohw,osw,mhw,msw,ohw',osw',mhw',msw']
    refine callK_of (sameMdC hS.toMp hH3 hM3 (((hH1.fr f2).gk gk3)) (((hM1.fr f2).gk gk3))) ?_
    rintro r g4 ⟨rfl,f4⟩
    have hd1:decide (l'=l')=true:=decide_eq_true rfl
    have hd2:decide (s'=s')=true:=decide_eq_true rfl
    simp (maxSteps:=9^9) -dsimp (disch:=repeat first | rw [nxn] | rw [nxp] | omega) only [go_sem,hd1,hd2,t0,t3,t4]
    exact ⟨L.length-(i+1),by omega,trivial,e3.trans f4,by have:=f4.nx;omega,trivial,trivial,i+1,_,_,hw,sw,rfl,by omega,(f4.get W (by omega)).trans b3,(hH.fr f3).fr f4,(hM.fr f3).fr f4,(invX 0).mono _ _ _ hI (by omega),hB.mono (by omega),rfl⟩
  ·obtain rfl:i=L.length:=by omega
   simp (maxSteps:=9^9) -dsimp (disch:=repeat first | rw [nxn] | rw [nxp] | omega) only [go_sem,c4,t0,t3,t4,lv,ov,mv]
   exact ⟨trivial,trivial⟩
 ·simp (maxSteps:=9^9) -dsimp (disch:=repeat first | rw [nxn] | rw [nxp] | omega) only [go_sem]
  exact ⟨trivial,f12,by omega,trivial,trivial,0,[],[],.nilsl,.nilsl,rfl,Nat.zero_le _,q2,⟨.inl ⟨rfl,rfl⟩,Nat.zero_le _⟩,⟨.inl ⟨rfl,rfl⟩,Nat.zero_le _⟩,⟨Nat.le_refl _,Nat.le_refl _,Nat.le_refl _,.nil,fun x hx=>(by cases hx)⟩,⟨Nat.zero_le _,fun m hm=>(by cases hm)⟩,rfl⟩
 ·rintro ex ⟨tt,g,q⟩ ⟨rfl,rfl⟩
  simp (maxSteps:=9^9) -dsimp (disch:=repeat first | rw [nxn] | rw [nxp] | omega) only [go_sem]
end
end Go.Proofs.YtihigekgnnoejaaGreatDoor.mdl
end