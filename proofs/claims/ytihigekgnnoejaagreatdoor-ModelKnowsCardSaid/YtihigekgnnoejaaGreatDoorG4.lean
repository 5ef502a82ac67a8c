/- Texts joined: MK, ML, MM, MN, MO, MP. -/
import Derived.Test.YtihigekgnnoejaaGreatDoorG3
import Derived.Test.YtihigekgnnoejaaGreatDoorAb6
set_option maxRecDepth 100000
set_option linter.unusedVariables false
set_option linter.unusedSimpArgs false
set_option maxHeartbeats 32000000
section
namespace Go.Proofs.YtihigekgnnoejaaGreatDoor.mdl
open Go Go.Abs Go.Proofs
theorem ltSt (h:AH) (t:TypeId) (a b:List Nat):binA Tryz.prog h .lss t (.str a) (.str b)=some (.bool (lessA a b)):=by
 show strA .lss a b=_
 simp [strA]
theorem gtSt (h:AH) (t:TypeId) (a b:List Nat):binA Tryz.prog h .gtr t (.str a) (.str b)=some (.bool (lessA b a)):=by
 show strA .gtr a b=_
 have e:(!lessA a b&&!eqL a b)=lessA b a:=by
  by_cases he:a=b
  ·subst he
   simp [eqL_eq,lessA_irr]
  ·cases hl:lessA a b
   ·have:=lessA_tot _ _ he hl
    simp [eqL_eq,he,this]
   ·simp [lessA_asym hl]
 simp [strA,e]
abbrev Ky:=Int×(List Nat×List Nat)
def cmpI (a b:Int):Int:=if a<b then -1 else if b<a then 1 else 0
def cmpS (a b:List Nat):Int:=if lessA a b=true then -1 else if lessA b a=true then 1 else 0
def or3 (a b c:Int):Int:=if a≠0 then a else if b≠0 then b else c
def cmpK (a b:Ky):Int:=or3 (cmpI a.1 b.1) (cmpS a.2.1 b.2.1) (cmpS a.2.2 b.2.2)
theorem cmpI0 {a b:Int} (h:cmpI a b=0):a=b:=by
 unfold cmpI at h
 split at h
 ·cases h
 ·split at h
  ·cases h
  ·omega
theorem cmpS0 {a b:List Nat} (h:cmpS a b=0):a=b:=by
 unfold cmpS at h
 split at h
 ·cases h
 ·rename_i h1
  split at h
  ·cases h
  ·rename_i h2
   by_cases he:a=b
   ·exact he
   ·exact absurd (lessA_tot _ _ he (by simpa using h1)) h2
theorem cmpK0 {a b:Ky} (h:cmpK a b=0):a=b:=by
 unfold cmpK or3 at h
 split at h
 ·rename_i h1;exact absurd h h1
 ·rename_i h1
  split at h
  ·rename_i h2;exact absurd h h2
  ·rename_i h2
   exact Prod.ext (cmpI0 (by omega)) (Prod.ext (cmpS0 (by omega)) (cmpS0 h))
section
variable {S : Sums}
structure Mk (S:Sums):Prop extends Mg S where
 nk:∀f args h,f∈[79,134,106,150,133,105,25,104,103,76,64,96,60,78,77]→S f args h=none
theorem nanI (hS:Mk S) {h:AH} (a:Int):RnC Tryz.prog S 106 [.int .i64 a] h fun r h'=>r=.bool false∧h'=h:=by
 refine RnC.enter' Tryz.f106 _ 6 [.tmp 2] (hS.nk _ _ _ (by simp)) bd106 Tryz.func106 rfl rfl rfl ?_
 simp -dsimp only [go_sem]
 exact ⟨by first | trivial | rfl,by first | trivial | rfl⟩
theorem nanS (hS:Mk S) {h:AH} (a:List Nat):RnC Tryz.prog S 150 [.str a] h fun r h'=>r=.bool false∧h'=h:=by
 refine RnC.enter' Tryz.f150 _ 6 [.tmp 2] (hS.nk _ _ _ (by simp)) bd150 Tryz.func150 rfl rfl rfl ?_
 simp -dsimp only [go_sem,neStr,decide_eq_true rfl]
 exact ⟨by simp,by first | trivial | rfl⟩
theorem cmpIC (hS:Mk S) {h:AH} (a b:Int):RnC Tryz.prog S 79 [.int .i64 a,.int .i64 b] h fun r h'=>r=.int .i64 (cmpI a b)∧h'=h:=by
 refine RnC.enter' Tryz.f79 _ 20 [.tmp 4] (hS.nk _ _ _ (by simp)) bd79 Tryz.func79 rfl rfl rfl ?_
 simp -dsimp only [go_sem]
 refine callK_of (nanI hS a) ?_
 rintro r g ⟨rfl,rfl⟩
 try simp -dsimp only [go_sem]
 refine callK_of (nanI hS b) ?_
 rintro r g ⟨rfl,rfl⟩
 unfold cmpI
 by_cases h1:a<b
 ·simp -dsimp only [go_sem,h1]
  exact ⟨by simp [h1],by first | trivial | rfl⟩
 ·by_cases h2:b<a
  ·simp -dsimp only [go_sem,h1,h2]
   exact ⟨by simp [h1,h2],by first | trivial | rfl⟩
  ·simp -dsimp only [go_sem,h1,h2]
   exact ⟨by simp [h1,h2],by first | trivial | rfl⟩
theorem cmpSC (hS:Mk S) {h:AH} (a b:List Nat):RnC Tryz.prog S 134 [.str a,.str b] h fun r h'=>r=.int .i64 (cmpS a b)∧h'=h:=by
 refine RnC.enter' Tryz.f134 _ 20 [.tmp 4] (hS.nk _ _ _ (by simp)) bd134 Tryz.func134 rfl rfl rfl ?_
 simp -dsimp only [go_sem]
 refine callK_of (nanS hS a) ?_
 rintro r g ⟨rfl,rfl⟩
 try simp -dsimp only [go_sem]
 refine callK_of (nanS hS b) ?_
 rintro r g ⟨rfl,rfl⟩
 unfold cmpS
 cases h1:lessA a b
 ·cases h2:lessA b a
  ·simp -dsimp only [go_sem,ltSt,gtSt,h1,h2]
   exact ⟨by simp,by first | trivial | rfl⟩
  ·simp -dsimp only [go_sem,ltSt,gtSt,h1,h2]
   exact ⟨by simp,by first | trivial | rfl⟩
 ·simp -dsimp only [go_sem,ltSt,gtSt,h1]
  exact ⟨by simp,by first | trivial | rfl⟩
theorem or3C (hS:Mk S) {h:AH} {id:Nat} (a b c:Int) (hi:h.get id=some (.cells [.int .i64 a,.int .i64 b,.int .i64 c] true false)):RnC Tryz.prog S 133 [.sl id 0 3 1 (some 3)] h fun r h'=>r=.int .i64 (or3 a b c)∧h'=h:=by
 refine RnC.enter' Tryz.f133 _ 18 [.tmp 2] (hS.nk _ _ _ (by simp)) bd133 Tryz.func133 rfl rfl rfl ?_
 simp -dsimp only [go_sem,evLen]
 unfold or3
 refine loopK_of (RnL.rounds (Q:=fun ex u=>u.d=[]∧u.h=h∧(ex=.exit 0∧u.t.get 3=some (.int .i64 0)∧a=0∧b=0∧c=0∨ex=.ret∧u.t.get 2=some (.int .i64 (or3 a b c))))
  (fun m u=>u.d=[]∧u.h=h∧u.t.get 3=some (.int .i64 0)∧u.t.get 6=some (.sl id 0 3 1 (some 3))∧u.t.get 7=some (.int .i64 3)∧∃i:Nat,u.t.get 8=some (.int .i64 (i:Nat))∧i≤3∧(0<i→a=0)∧(1<i→b=0)∧(2<i→c=0)∧m=3-i) ?_ 3 ?_) ?_
 ·rintro m ⟨tt,g,q⟩ ⟨e2,e1,g3,g6,g7,i,g8,hi3,ha,hb,hc,rfl⟩
  dsimp only at e1 e2 g3 g6 g7 g8
  subst e2 e1
  obtain rfl | rfl | rfl | rfl:i=0∨i=1∨i=2∨i=3:=by omega
  ·by_cases h0:a=0
   ·simp -dsimp only [go_sem,g3,g6,g7,g8,hi,h0]
    exact ⟨2,by omega,trivial,trivial,trivial,trivial,trivial,1,rfl,by omega,by intros;first | assumption | trivial,by intros;first | trivial | omega,by intros;first | trivial | omega,rfl⟩
   ·simp -dsimp only [go_sem,g3,g6,g7,g8,hi,h0]
    exact ⟨trivial,trivial,.inr ⟨trivial,by simp [or3,h0]⟩⟩
  ·have h0:=ha (by omega)
   by_cases h1:b=0
   ·simp -dsimp only [go_sem,g3,g6,g7,g8,hi,h1]
    exact ⟨1,by omega,trivial,trivial,trivial,trivial,trivial,2,rfl,by omega,by intros;first | assumption | trivial,by intros;first | assumption | trivial,by intros;first | trivial | omega,rfl⟩
   ·simp -dsimp only [go_sem,g3,g6,g7,g8,hi,h1]
    exact ⟨trivial,trivial,.inr ⟨trivial,by simp [or3,h0,h1]⟩⟩
  ·have h0:=ha (by omega)
   have h1:=hb (by omega)
   by_cases h2:c=0
   ·simp -dsimp only [go_sem,g3,g6,g7,g8,hi,h2]
    exact ⟨0,by omega,trivial,trivial,trivial,trivial,trivial,3,rfl,by omega,by intros;first | assumption | trivial,by intros;first | assumption | trivial,by intros;first | assumption | trivial,rfl⟩
   ·simp -dsimp only [go_sem,g3,g6,g7,g8,hi,h2]
    exact ⟨trivial,trivial,.inr ⟨trivial,by simp [or3,h0,h1]⟩⟩
  ·simp -dsimp only [go_sem,g3,g6,g7,g8]
   exact ⟨trivial,trivial,.inl ⟨trivial,trivial,ha (by omega),hb (by omega),hc (by omega)⟩⟩
 ·simp -dsimp only [go_sem]
  exact ⟨trivial,trivial,trivial,trivial,trivial,0,rfl,by omega,fun hh=>absurd hh (by omega),fun hh=>absurd hh (by omega),fun hh=>absurd hh (by omega),rfl⟩
 ·rintro ex ⟨tt,g,q⟩ ⟨rfl,e1,⟨rfl,g3,rfl,rfl,rfl⟩ | ⟨rfl,t2⟩⟩
  ·dsimp only at e1 g3
   subst e1
   simp -dsimp only [go_sem,g3]
   exact ⟨by simp,by first | trivial | rfl⟩
  ·dsimp only at e1 t2
   subst e1
   simp -dsimp only [go_sem,t2]
   exact ⟨by simp [or3],by first | trivial | rfl⟩
end
def Rs (K:Nat→Nat) (h:AH) (v:AV) (l:List Rc):Prop:=Sl K 7 (Ra K h) h v l∧l.length≤1000000
theorem Rs.gk {K:Nat→Nat} {h h':AH} {v:AV} {l:List Rc} (hb:Rs K h v l) (g:Gk K h h'):Rs K h' v l:=⟨hb.1.gk g fun cs x hx=>hx.gk g,hb.2⟩
theorem Rs.fr {K:Nat→Nat} {h h':AH} {v:AV} {l:List Rc} (hb:Rs K h v l) (f:Fr h h'):Rs K h' v l:=hb.gk (f.gk K)
theorem Rs.col {K K':Nat→Nat} {h:AH} {v:AV} {l:List Rc} (hb:Rs K h v l) (hk:∀j,j<h.nx→K j=0→K' j=0):Rs K' h v l:=⟨hb.1.col hk fun cs x hx=>hx.col hk,hb.2⟩
structure Hd where
 dev:Int
 folder:List Nat
 path:List Nat
 now:Rc
 past:List Rc
 start:Nat
def Hd.key (x:Hd):Ky:=(x.dev,(x.folder,x.path))
def Ha (K:Nat→Nat) (h:AH) (cs:List AV) (x:Hd):Prop:=∃v d pv,cs=[.int .i64 x.dev,.str x.folder,.str x.path,.str x.now.path,v,.int .i64 x.now.own,.bool x.now.gone,.int .i64 x.now.size,.int .i64 x.now.len,d,pv,.int .i64 (x.start:Nat)]∧Cv K h v x.now.vec∧Dv K h d x.now.digs∧x.now.path.length≤1000000∧Rs K h pv x.past
theorem Ha.gk {K:Nat→Nat} {h h':AH} {cs:List AV} {x:Hd} (hb:Ha K h cs x) (g:Gk K h h'):Ha K h' cs x:=let ⟨v,d,p,h1,h2,h3,h4,h5⟩:=hb;⟨v,d,p,h1,h2.gk g,h3.gk g,h4,h5.gk g⟩
theorem Ha.col {K K':Nat→Nat} {h:AH} {cs:List AV} {x:Hd} (hb:Ha K h cs x) (hk:∀j,j<h.nx→K j=0→K' j=0):Ha K' h cs x:=let ⟨v,d,p,h1,h2,h3,h4,h5⟩:=hb;⟨v,d,p,h1,h2.col hk,h3.col hk,h4,h5.col hk⟩
def Hs (K:Nat→Nat) (h:AH) (v:AV) (l:List Hd):Prop:=Sl K 12 (Ha K h) h v l∧l.length≤1000000
theorem Hs.gk {K:Nat→Nat} {h h':AH} {v:AV} {l:List Hd} (hb:Hs K h v l) (g:Gk K h h'):Hs K h' v l:=⟨hb.1.gk g fun cs x hx=>hx.gk g,hb.2⟩
theorem Hs.fr {K:Nat→Nat} {h h':AH} {v:AV} {l:List Hd} (hb:Hs K h v l) (f:Fr h h'):Hs K h' v l:=hb.gk (f.gk K)
theorem Hs.col {K K':Nat→Nat} {h:AH} {v:AV} {l:List Hd} (hb:Hs K h v l) (hk:∀j,j<h.nx→K j=0→K' j=0):Hs K' h v l:=⟨hb.1.col hk fun cs x hx=>hx.col hk,hb.2⟩
theorem bldK (a:Int) (b c:List Nat):evBuild Tryz.prog 75 [(0,.int .i64 a),(1,.str b),(2,.str c)]=some (.agg [.int .i64 a,.str b,.str c]):=by kernel_rfl
def bsF (c:Nat→Int):Nat→Nat→Nat→Nat
 | 0,i,_=>i
 | f+1,i,j=>if i<j then (if c ((i+j)/2)<0 then bsF c f ((i+j)/2+1) j else bsF c f i ((i+j)/2)) else i
theorem bsF_le (c:Nat→Int):∀(f i j:Nat),i≤j→i≤bsF c f i j∧bsF c f i j≤j
 | 0,i,j,h=>⟨Nat.le_refl _,h⟩
 | f+1,i,j,h=>by
  unfold bsF
  split
  ·split
   ·have:=bsF_le c f ((i+j)/2+1) j (by omega)
    omega
   ·have:=bsF_le c f i ((i+j)/2) (by omega)
    omega
  ·exact ⟨Nat.le_refl _,h⟩
def atK (l:List Hd) (k:Ky) (i:Nat):Int:=match l[i]? with
 | some x=>cmpK x.key k
 | none=>0
def findK (l:List Hd) (k:Ky):Nat×Bool:=(bsF (atK l k) l.length 0 l.length,decide (bsF (atK l k) l.length 0 l.length<l.length)&&decide (atK l k (bsF (atK l k) l.length 0 l.length)=0))
theorem findK_le (l:List Hd) (k:Ky):(findK l k).1≤l.length:=(bsF_le _ _ _ _ (Nat.zero_le _)).2
theorem atK_at {l:List Hd} {k:Ky} {m:Nat} (h1:m<l.length) (h2:atK l k m=0):∃x,l[m]? = some x∧x.key=k:=by
 refine ⟨_,List.getElem?_eq_getElem h1,?_⟩
 unfold atK at h2
 rw [List.getElem?_eq_getElem h1] at h2
 exact cmpK0 h2
theorem findK_is {l:List Hd} {k:Ky} (h:(findK l k).2=true):∃x,l[(findK l k).1]? = some x∧x.key=k:=by
 simp only [findK,Bool.and_eq_true,decide_eq_true_eq] at h
 exact atK_at h.1 h.2
section
variable {S : Sums}
theorem svi (k:IntKind) (n:Int):sameAV 20 (.int k n) (.int k n)=true:=by simp [sameAV]
theorem svb (b:Bool):sameAV 20 (.bool b) (.bool b)=true:=by simp [sameAV]
theorem svs (l:List Nat):sameAV 20 (.str l) (.str l)=true:=by simp [sameAV]
theorem svp (a o:Nat):sameAV 20 (.ptr a o) (.ptr a o)=true:=by simp [sameAV]
theorem svk (k:Ky):sameAV 20 (.agg [.int .i64 k.1,.str k.2.1,.str k.2.2]) (.agg [.int .i64 k.1,.str k.2.1,.str k.2.2])=true:=by simp [sameAV,Go.Abs.sameL]
theorem keyCmpC (hS:Mk S) {h:AH} (a b:Ky):RnC Tryz.prog S 105 [.agg [.int .i64 a.1,.str a.2.1,.str a.2.2],.agg [.int .i64 b.1,.str b.2.1,.str b.2.2]] h fun r h'=>r=.int .i64 (cmpK a b)∧Fr h h':=by
 refine RnC.enter' Tryz.f105 _ 22 [.tmp 4] (hS.nk _ _ _ (by simp)) bd105 Tryz.func105 rfl rfl rfl ?_
 simp -dsimp only [go_sem]
 generalize hg:((h.new (.cells [.int .i64 a.1,.str a.2.1,.str a.2.2] true false)).new (.cells [.int .i64 b.1,.str b.2.1,.str b.2.2] true false))=g
 have n1:g.nx=h.nx+2:=by rw [←hg];rfl
 have f1:Fr h g:=by rw [←hg];exact (Fr.new _ _).news _
 have q1:g.get h.nx=some (.cells [.int .i64 a.1,.str a.2.1,.str a.2.2] true false):=by rw [←hg];exact (AH.get_new_ne (by simp)).trans (AH.get_new_eq rfl)
 have q2:g.get (h.nx+1)=some (.cells [.int .i64 b.1,.str b.2.1,.str b.2.2] true false):=by rw [←hg];exact AH.get_new_eq rfl
 refine syDraw.keep (fun j=>j=h.nx∨j=h.nx+1) (by kernel_rfl) (by kernel_rfl) ?_
 have fx:Fr g { tr:=g.tr,nx:=g.nx+18 }:=(Fr.refl g).more _ (by omega)
 simp -dsimp only [go_sem,q1,q2,true_and,true_or,or_true,implies_true,svi,svb,svs,svp]
 refine callK_of (cmpIC hS a.1 b.1) ?_
 rintro r g2 ⟨rfl,rfl⟩
 simp -dsimp only [go_sem,q1,q2,true_and,true_or,or_true,implies_true,svi,svb,svs,svp]
 refine callK_of (cmpSC hS a.2.1 b.2.1) ?_
 rintro r g2 ⟨rfl,rfl⟩
 simp -dsimp only [go_sem,q1,q2,true_and,true_or,or_true,implies_true,svi,svb,svs,svp]
 refine callK_of (cmpSC hS a.2.2 b.2.2) ?_
 rintro r g2 ⟨rfl,rfl⟩
 simp -dsimp only [go_sem,q1,q2,true_and,true_or,or_true,implies_true,svi,svb,svs,svp]
 refine callK_of (or3C hS _ _ _ (AH.get_put_eq rfl)) ?_
 rintro r g2 ⟨rfl,rfl⟩
 refine ⟨fun j hj=>AH.get_put_ne (by omega),?_⟩
 try simp -dsimp only [go_sem]
 exact ⟨by first | trivial | rfl,f1.trans (fx.put _ (by omega))⟩
theorem keyOfC (hS:Mk S) {K:Nat→Nat} {h:AH} {cs:List AV} {x:Hd} (hx:Ha K h cs x):RnC Tryz.prog S 25 [.agg cs] h fun r h'=>r=.agg [.int .i64 x.dev,.str x.folder,.str x.path]∧Fr h h':=by
 obtain ⟨v,d,pv,rfl,hv,hd,hp,hpv⟩:=hx
 refine RnC.enter' Tryz.f25 _ 10 [.cell 2 75] (hS.nk _ _ _ (by simp)) bd25 Tryz.func25 rfl rfl rfl ?_
 have ov:=hv.ln.2.2.2
 have od:=hd.ln.2.2
 have op:=(Sl.one hpv.1).2
 have mv:=oneM ov
 have md:=oneM od
 have mp:=oneM op
 simp -dsimp (disch:=repeat first|rw [nxn]|rw [nxp]|omega) only [go_sem,ov,od,op,mv,md,mp,bldK]
 exact ⟨by first | trivial | rfl,((Fr.new _ _).news _).put _ (by show h.nx≤h.nx+1;omega)⟩
theorem findCmpC (hS:Mk S) {K:Nat→Nat} {h:AH} {cs:List AV} {x:Hd} (k:Ky) (hx:Ha K h cs x):RnC Tryz.prog S 104 [.agg cs,.agg [.int .i64 k.1,.str k.2.1,.str k.2.2]] h fun r h'=>r=.int .i64 (cmpK x.key k)∧Fr h h':=by
 have hx0:=hx
 obtain ⟨v,d,pv,rfl,hv,hd,hp,hpv⟩:=hx
 refine RnC.enter' Tryz.f104 _ 9 [.tmp 4] (hS.nk _ _ _ (by simp)) bd104 Tryz.func104 rfl rfl rfl ?_
 have ov:=hv.ln.2.2.2
 have od:=hd.ln.2.2
 obtain ⟨sp,op⟩:=Sl.one hpv.1
 obtain ⟨_,_,sv,_⟩:=hv.ln
 obtain ⟨_,sd,_⟩:=hd.ln
 have mv:=oneM ov
 have md:=oneM od
 have mp:=oneM op
 simp -dsimp only [go_sem,ov,od,op,mv,md,mp]
 generalize hg:((h.new (.cells [.int .i64 x.dev,.str x.folder,.str x.path,.str x.now.path,v,.int .i64 x.now.own,.bool x.now.gone,.int .i64 x.now.size,.int .i64 x.now.len,d,pv,.int .i64 (x.start:Nat)] true false)).new (.cells [.int .i64 k.1,.str k.2.1,.str k.2.2] true false))=g
 have n1:g.nx=h.nx+2:=by rw [←hg];rfl
 have f1:Fr h g:=by rw [←hg];exact (Fr.new _ _).news _
 have q1:g.get h.nx=some (.cells [.int .i64 x.dev,.str x.folder,.str x.path,.str x.now.path,v,.int .i64 x.now.own,.bool x.now.gone,.int .i64 x.now.size,.int .i64 x.now.len,d,pv,.int .i64 (x.start:Nat)] true false):=by rw [←hg];exact (AH.get_new_ne (by simp)).trans (AH.get_new_eq rfl)
 have q2:g.get (h.nx+1)=some (.cells [.int .i64 k.1,.str k.2.1,.str k.2.2] true false):=by rw [←hg];exact AH.get_new_eq rfl
 have fx:Fr g { tr:=g.tr,nx:=g.nx+5 }:=(Fr.refl g).more _ (by omega)
 have s12:sameAV 20 (.agg [.int .i64 x.dev,.str x.folder,.str x.path,.str x.now.path,v,.int .i64 x.now.own,.bool x.now.gone,.int .i64 x.now.size,.int .i64 x.now.len,d,pv,.int .i64 (x.start:Nat)]) (.agg [.int .i64 x.dev,.str x.folder,.str x.path,.str x.now.path,v,.int .i64 x.now.own,.bool x.now.gone,.int .i64 x.now.size,.int .i64 x.now.len,d,pv,.int .i64 (x.start:Nat)])=true:=by
  rcases flShape hv.1 with ⟨rfl,_⟩ | ⟨_,_,_,_,rfl⟩ <;> rcases flShape hd.1 with ⟨rfl,_⟩ | ⟨_,_,_,_,rfl⟩ <;> rcases Sl.shape hpv.1 with ⟨rfl,_⟩ | ⟨_,_,_,rfl⟩ <;> simp [sameAV,Go.Abs.sameL]
 refine syDraw.keep (fun j=>j=h.nx∨j=h.nx+1) (by kernel_rfl) (by kernel_rfl) ?_
 simp -dsimp only [go_sem,q1,q2,ov,od,op,mv,md,mp,s12,svk,true_and,true_or,or_true,implies_true,svi,svb,svs,svp]
 refine callK_of (keyOfC hS ((hx0.gk (f1.gk K)).gk (fx.gk K))) ?_
 rintro r g2 ⟨rfl,f2⟩
 refine ⟨fun j hj=>f2.get j (by show j<g.nx+5;omega),?_⟩
 have q22:g2.get (h.nx+1)=_:=(f2.get _ (by show h.nx+1<g.nx+5;omega)).trans q2
 simp -dsimp only [go_sem,q22,svk,true_and,true_or,or_true,implies_true,svi,svb,svs,svp]
 refine callK_of (keyCmpC hS x.key k) ?_
 rintro r g3 ⟨rfl,f3⟩
 have n2:g.nx+5≤g2.nx:=f2.nx
 refine ⟨fun j hj=>f3.get j (by omega),?_⟩
 try simp -dsimp only [go_sem]
 exact ⟨by first | trivial | rfl,((f1.trans fx).trans f2).trans f3⟩
end
theorem Hs.ln {K:Nat→Nat} {h:AH} {v:AV} {l:List Hd} (hb:Hs K h v l):(∀g,evLen Tryz.prog g #[25] v=some (.int .i64 (l.length:Nat)))∧sameAV 20 v v=true∧oneA v=true :=
 ⟨Sl.len hb.1 Tryz.underlying25,Sl.one hb.1⟩
theorem Ha.sv {K:Nat→Nat} {h:AH} {cs:List AV} {x:Hd} (hx:Ha K h cs x):sameAV 20 (.agg cs) (.agg cs)=true:=by
 obtain ⟨v,d,pv,rfl,hv,hd,hp,hpv⟩:=hx
 rcases flShape hv.1 with ⟨rfl,_⟩ | ⟨_,_,_,_,rfl⟩ <;> rcases flShape hd.1 with ⟨rfl,_⟩ | ⟨_,_,_,_,rfl⟩ <;> rcases Sl.shape hpv.1 with ⟨rfl,_⟩ | ⟨_,_,_,rfl⟩ <;> simp [sameAV,Go.Abs.sameL]
theorem cvIU (h:AH) (i j:Nat) (hb:i+j≤4000000):evConvert Tryz.prog h 3 156 (.int .i64 ((i:Int)+(j:Int)))=some (.val (.int .u64 ((i+j:Nat):Int)) h):=by
 have e:IntKind.u64.wrap ((i:Int)+(j:Int))=((i+j:Nat):Int):=by
  simp [IntKind.wrap,IntKind.bits,IntKind.signed];omega
 simp only [evConvert,Tryz.underlying3,Tryz.underlying156,val?,e]
theorem shU (h:AH) (n:Nat):binA Tryz.prog h .shr 156 (.int .u64 (n:Nat)) (.int .u64 1)=some (.int .u64 ((n/2:Nat):Int)):=by
 show shiftA .shr .u64 (n:Nat) 1=_
 simp [shiftA,IntKind.bits]
 exact Int.fdiv_eq_ediv_of_nonneg _ (by decide)
theorem cvUI (h:AH) (n:Nat) (hb:n≤4000000):evConvert Tryz.prog h 156 3 (.int .u64 (n:Nat))=some (.val (.int .i64 (n:Nat)) h):=by
 have e:IntKind.i64.wrap (n:Nat)=(n:Nat):=by
  simp [IntKind.wrap,IntKind.bits,IntKind.signed];omega
 simp only [evConvert,Tryz.underlying3,Tryz.underlying156,val?,e]
section
variable {S : Sums}
theorem bsC (hS:Mk S) {K:Nat→Nat} {h:AH} {hv:AV} {l:List Hd} (k:Ky) (hs:Hs K h hv l):RnC Tryz.prog S 103 [hv,.agg [.int .i64 k.1,.str k.2.1,.str k.2.2],.func (.func 104) [] []] h fun r h'=>r=.tup [.int .i64 ((findK l k).1:Nat),.bool (findK l k).2]∧Fr h h':=by
 refine RnC.enter' Tryz.f103 _ 49 [.tmp 6,.tmp 7] (hS.nk _ _ _ (by simp)) bd103 Tryz.func103 rfl rfl rfl ?_
 obtain ⟨lv,sv,ov⟩:=hs.ln
 have hl:=hs.2
 simp -dsimp only [go_sem,ov,lv]
 have f1:Fr h (h.new (.cells [.int .i64 k.1,.str k.2.1,.str k.2.2] true false)):=Fr.new _ _
 have q1:(h.new (.cells [.int .i64 k.1,.str k.2.1,.str k.2.2] true false)).get h.nx=some (.cells [.int .i64 k.1,.str k.2.1,.str k.2.2] true false):=AH.get_new_eq rfl
 have n1:(h.new (.cells [.int .i64 k.1,.str k.2.1,.str k.2.2] true false)).nx=h.nx+1:=rfl
 generalize h.new (.cells [.int .i64 k.1,.str k.2.1,.str k.2.2] true false)=g1 at f1 q1 n1 ⊢
 have hs1:=hs.fr f1
 refine loopK_of (RnL.rounds (Q:=fun ex u=>u.d=[]∧Fr g1 u.h∧ex=.exit 0∧u.t.get 0=some hv∧u.t.get 2=some (.func (.func 104) [] [])∧u.t.get 4=some (.ptr h.nx 0)∧u.t.get 8=some (.int .i64 (l.length:Nat))∧u.t.get 9=some (.int .i64 ((findK l k).1:Nat)))
  (fun m u=>u.d=[]∧Fr g1 u.h∧u.t.get 0=some hv∧u.t.get 2=some (.func (.func 104) [] [])∧u.t.get 4=some (.ptr h.nx 0)∧u.t.get 8=some (.int .i64 (l.length:Nat))∧∃i j f:Nat,u.t.get 9=some (.int .i64 (i:Nat))∧u.t.get 10=some (.int .i64 (j:Nat))∧i≤j∧j≤l.length∧j-i≤f∧bsF (atK l k) f i j=(findK l k).1∧m=f) ?_ l.length ?_) ?_
 ·rintro m ⟨tt,g,q⟩ ⟨e2,e1,g0,g2,g4,g8,i,j,f,g9,g10,hij,hj,hf,hb,rfl⟩
  dsimp only at e1 e2 g0 g2 g4 g8 g9 g10
  subst e2
  by_cases c4:(i:Int)<(j:Nat)
  ·have hij':i<j:=by omega
   obtain ⟨m,rfl⟩:∃f',m=f'+1:=⟨m-1,by omega⟩
   rw [bsF,if_pos hij'] at hb
   have hm1:(i+j)/2<l.length:=by omega
   obtain ⟨x,hx⟩:∃x,l[(i+j)/2]? = some x:=⟨_,List.getElem?_eq_getElem hm1⟩
   have hat:atK l k ((i+j)/2)=cmpK x.key k:=by unfold atK;rw [hx]
   rw [hat] at hb
   obtain ⟨id,off,cc,cs,o,t,rfl,hgi,hidl,hk0,hle,hE,_⟩:=Sl.at (hs1.fr e1).1 hx
   have hE0:=hE
   obtain ⟨v,d,pv,hcs,hv',hd',hp',hpv⟩:=hE
   have u1:=fun g=>cvIU g i j (by omega)
   have u2:=fun g=>shU g (i+j)
   have u3:=fun g=>cvUI g ((i+j)/2) (by omega)
   simp -dsimp (disch:=repeat first|rw [nxn]|rw [nxp]|omega) only [go_sem,c4,g0,g2,g4,g8,g9,g10,u1,u2,u3]
   have r1:g.get h.nx=_:=(e1.get _ (by omega)).trans q1
   refine syDraw.keep (fun j=>j=h.nx∨j=id) (by kernel_rfl) (by kernel_rfl) ?_
   have ov':=hv'.ln.2.2.2
   have od':=hd'.ln.2.2
   obtain ⟨sp,op⟩:=Sl.one hpv.1
   obtain ⟨_,_,sv',_⟩:=hv'.ln
   obtain ⟨_,sd',_⟩:=hd'.ln
   have s12:=hE0.sv
   rw [hcs] at s12
   have fx:Fr g { tr:=g.tr,nx:=g.nx+8 }:=(Fr.refl g).more _ (by omega)
   have hm2:(((i+j)/2:Nat):Int)<(l.length:Nat):=by omega
   simp -dsimp (disch:=repeat first|rw [nxn]|rw [nxp]|omega) only [go_sem,r1,g0,g2,g4,hm1,hm2,hgi,hle,hcs,ov',od',op,s12,svk,sv,true_and,true_or,or_true,implies_true,svi,svb,svs,svp]
   rw [hcs] at hE0
   refine callK_of (findCmpC hS k (hE0.gk (fx.gk K))) ?_
   rintro r g3 ⟨rfl,f3⟩
   have e3:=(e1.trans fx).trans f3
   have n3:g.nx+8≤g3.nx:=f3.nx
   have n0:=e1.nx
   refine ⟨fun j' hj'=>f3.get j' (by show j'<g.nx+8;rcases hj' with rfl | rfl <;> omega),?_⟩
   by_cases hc:cmpK x.key k<0
   ·rw [if_pos hc] at hb
    simp -dsimp (disch:=repeat first|rw [nxn]|rw [nxp]|omega) only [go_sem,hc,g0,g2,g4,g8,g9,g10]
    exact ⟨m,by omega,trivial,e3,trivial,trivial,trivial,trivial,(i+j)/2+1,j,m,rfl,rfl,by omega,hj,by omega,hb,rfl⟩
   ·rw [if_neg hc] at hb
    simp -dsimp only [go_sem,hc,g0,g2,g4,g8,g9,g10]
    exact ⟨m,by omega,trivial,e3,trivial,trivial,trivial,trivial,i,(i+j)/2,m,rfl,rfl,by omega,by omega,by omega,hb,rfl⟩
  ·obtain rfl:i=j:=by omega
   have:bsF (atK l k) m i i=i:=by
    cases m with
    | zero=>rfl
    | succ m=>rw [bsF,if_neg (by omega)]
   rw [this] at hb
   simp -dsimp only [go_sem,c4,g0,g2,g4,g8,g9,g10]
   exact ⟨trivial,e1,trivial,trivial,trivial,trivial,trivial,by rw [hb]⟩
 ·simp -dsimp only [go_sem]
  exact ⟨trivial,Fr.refl _,trivial,trivial,trivial,trivial,0,l.length,l.length,rfl,rfl,Nat.zero_le _,Nat.le_refl _,Nat.le_refl _,rfl,rfl⟩
 ·rintro ex ⟨tt,g,q⟩ ⟨rfl,e1,rfl,g0,g2,g4,g8,g9⟩
  dsimp only at e1 g0 g2 g4 g8 g9
  have r1:g.get h.nx=_:=(e1.get _ (by omega)).trans q1
  have fe:=f1.trans e1
  have hle:=findK_le l k
  by_cases c1:((findK l k).1:Int)<(l.length:Nat)
  ·have hm1:(findK l k).1<l.length:=by omega
   obtain ⟨x,hx⟩:∃x,l[(findK l k).1]? = some x:=⟨_,List.getElem?_eq_getElem hm1⟩
   have hat:atK l k (findK l k).1=cmpK x.key k:=by unfold atK;rw [hx]
   have hf2:(findK l k).2=decide (cmpK x.key k=0):=by
    rw [←hat]
    show (decide ((findK l k).1<l.length)&&decide (atK l k (findK l k).1=0))=_
    rw [decide_eq_true hm1]
    rfl
   obtain ⟨id,off,cc,cs,o,t,rfl,hgi,hidl,hk0,hle2,hE,_⟩:=Sl.at (hs1.fr e1).1 hx
   have hE0:=hE
   obtain ⟨v,d,pv,hcs,hv',hd',hp',hpv⟩:=hE
   have ov':=hv'.ln.2.2.2
   have od':=hd'.ln.2.2
   obtain ⟨sp,op⟩:=Sl.one hpv.1
   have s12:=hE0.sv
   rw [hcs] at s12
   have n0:=e1.nx
   generalize (findK l k).1=m at *
   refine syDraw.keepN 14 (fun j=>j=h.nx∨j=id) (by kernel_rfl) (by kernel_rfl) rfl ?_
   have fx:Fr g { tr:=g.tr,nx:=g.nx+16 }:=(Fr.refl g).more _ (by omega)
   simp -dsimp (disch:=repeat first|rw [nxn]|rw [nxp]|omega) only [go_sem,r1,g0,g2,g4,g8,g9,c1,hm1,hgi,hle2,hcs,ov',od',op,s12,svk,sv,true_and,true_or,or_true,implies_true,svi,svb,svs,svp]
   rw [hcs] at hE0
   refine callK_of (findCmpC hS k (hE0.gk (fx.gk K))) ?_
   rintro r g3 ⟨rfl,f3⟩
   have n3:g.nx+16≤g3.nx:=f3.nx
   refine ⟨fun j' hj'=>f3.get j' (by show j'<g.nx+16;rcases hj' with rfl | rfl <;> omega),?_⟩
   rw [hf2]
   by_cases hc:cmpK x.key k=0
   ·simp -dsimp only [go_sem,hc,true_and,true_or,or_true,implies_true,svi,svb,svs,svp]
    first | exact (fe.trans fx).trans f3 | exact ⟨by simp,(fe.trans fx).trans f3⟩
   ·simp -dsimp only [go_sem,hc,true_and,true_or,or_true,implies_true,svi,svb,svs,svp]
    first | exact (fe.trans fx).trans f3 | exact ⟨by simp [hc],(fe.trans fx).trans f3⟩
  ·have hf2:(findK l k).2=false:=by
    show (decide ((findK l k).1<l.length)&&decide (atK l k (findK l k).1=0))=_
    rw [decide_eq_false (by omega)]
    rfl
   rw [hf2]
   generalize (findK l k).1=m at *
   refine syDraw.keepN 14 (fun j=>j=h.nx) (by kernel_rfl) (by kernel_rfl) rfl ?_
   have fx:Fr g { tr:=g.tr,nx:=g.nx+16 }:=(Fr.refl g).more _ (by omega)
   simp -dsimp only [go_sem,r1,g0,g2,g4,g8,g9,c1,sv,true_and,true_or,or_true,implies_true,svi,svb,svs,svp]
   first | exact fe.trans fx | exact ⟨by first | trivial | rfl,fe.trans fx⟩
def Vw (K:Nat→Nat) (h:AH) (p:Nat) (l:List Hd):Prop:=∃hv sv,h.get p=some (.cells [hv,sv] true false)∧p<h.nx∧Hs K h hv l∧oneA sv=true
theorem Vw.gk {K:Nat→Nat} {h h':AH} {p:Nat} {l:List Hd} (v:Vw K h p l) (g:Gk K h h') (hp:K p=0):Vw K h' p l:=let ⟨a,b,h1,h2,h3,h4⟩:=v;⟨a,b,(g.get p h2 hp).trans h1,Nat.lt_of_lt_of_le h2 g.nx,h3.gk g,h4⟩
theorem Vw.fr {K:Nat→Nat} {h h':AH} {p:Nat} {l:List Hd} (v:Vw K h p l) (f:Fr h h'):Vw K h' p l:=let ⟨a,b,h1,h2,h3,h4⟩:=v;⟨a,b,(f.get p h2).trans h1,Nat.lt_of_lt_of_le h2 f.nx,h3.fr f,h4⟩
theorem Vw.col {K K':Nat→Nat} {h:AH} {p:Nat} {l:List Hd} (v:Vw K h p l) (hk:∀j,j<h.nx→K j=0→K' j=0):Vw K' h p l:=let ⟨a,b,h1,h2,h3,h4⟩:=v;⟨a,b,h1,h2,h3.col hk,h4⟩
theorem findC (hS:Mk S) {K:Nat→Nat} {h:AH} {p:Nat} {l:List Hd} (k:Ky) (hw:Vw K h p l):RnC Tryz.prog S 76 [.ptr p 0,.agg [.int .i64 k.1,.str k.2.1,.str k.2.2]] h fun r h'=>r=.tup [.int .i64 ((findK l k).1:Nat),.bool (findK l k).2]∧Fr h h':=by
 obtain ⟨hv,sv,hp,hpn,hs,os⟩:=hw
 refine RnC.enter' Tryz.f76 _ 15 [.tmp 4,.tmp 5] (hS.nk _ _ _ (by simp)) bd76 Tryz.func76 rfl rfl rfl ?_
 obtain ⟨lv,sv',ov⟩:=hs.ln
 simp -dsimp only [go_sem]
 have f1:Fr h (h.new (.cells [.int .i64 k.1,.str k.2.1,.str k.2.2] true false)):=Fr.new _ _
 have q1:(h.new (.cells [.int .i64 k.1,.str k.2.1,.str k.2.2] true false)).get h.nx=some (.cells [.int .i64 k.1,.str k.2.1,.str k.2.2] true false):=AH.get_new_eq rfl
 have n1:(h.new (.cells [.int .i64 k.1,.str k.2.1,.str k.2.2] true false)).nx=h.nx+1:=rfl
 generalize h.new (.cells [.int .i64 k.1,.str k.2.1,.str k.2.2] true false)=g1 at f1 q1 n1 ⊢
 have q2:g1.get p=_:=(f1.get _ hpn).trans hp
 refine syDraw.keep (fun j=>j=h.nx∨j=p) (by kernel_rfl) (by kernel_rfl) ?_
 have fx:Fr g1 { tr:=g1.tr,nx:=g1.nx+11 }:=(Fr.refl g1).more _ (by omega)
 simp -dsimp only [go_sem,q1,q2,ov,sv',svk,true_and,true_or,or_true,implies_true,svi,svb,svs,svp]
 refine callK_of (bsC hS k ((hs.fr f1).fr fx)) ?_
 rintro r g3 ⟨rfl,f3⟩
 refine ⟨fun j' hj'=>f3.get j' (by show j'<g1.nx+11;rcases hj' with rfl | rfl <;> omega),?_⟩
 simp -dsimp only [go_sem,true_and,true_or,or_true,implies_true,svi,svb,svs,svp]
 first | exact (f1.trans fx).trans f3 | exact ⟨by first | trivial | rfl,(f1.trans fx).trans f3⟩
end
def nowF (l:List Hd) (k:Ky):Rc×Bool:=match l[(findK l k).1]? with
 | some x=>if (findK l k).2=true∧x.now.path≠[] then (x.now,true) else (r0,false)
 | none=>(r0,false)
def pastF (l:List Hd) (k:Ky):List Rc:=match l[(findK l k).1]? with
 | some x=>if (findK l k).2=true then x.past.drop x.start else []
 | none=>[]
theorem nowF_no {l:List Hd} {k:Ky} (h:(findK l k).2=false):nowF l k=(r0,false):=by
 unfold nowF
 cases l[(findK l k).1]? <;> simp [h]
theorem nowF_at {l:List Hd} {k:Ky} {x:Hd} (h:(findK l k).2=true) (hx:l[(findK l k).1]? = some x):nowF l k=if x.now.path≠[] then (x.now,true) else (r0,false):=by
 unfold nowF
 rw [hx]
 simp [h]
theorem Hs.el {K:Nat→Nat} {h:AH} {v:AV} {l:List Hd} {i:Nat} {x:Hd} (hb:Hs K h v l) (hi:l[i]? = some x):∃id off c cs o t w d pv,v=.sl id off l.length 12 c∧h.get id=some (.cells cs o t)∧id<h.nx∧off+i*12+12≤cs.length∧(cs.drop (off+i*12)).take 12=[.int .i64 x.dev,.str x.folder,.str x.path,.str x.now.path,w,.int .i64 x.now.own,.bool x.now.gone,.int .i64 x.now.size,.int .i64 x.now.len,d,pv,.int .i64 (x.start:Nat)]∧Cv K h w x.now.vec∧Dv K h d x.now.digs∧x.now.path.length≤1000000∧Rs K h pv x.past ∧
  (cs.drop (off+i*12+3)).take 7=[.str x.now.path,w,.int .i64 x.now.own,.bool x.now.gone,.int .i64 x.now.size,.int .i64 x.now.len,d]∧cs[off+i*12+3]? = some (.str x.now.path)∧cs[off+i*12+10]? = some pv∧cs[off+i*12+11]? = some (.int .i64 (x.start:Nat))∧cs[off+i*12+1]? = some (.str x.folder)∧cs[off+i*12+2]? = some (.str x.path)∧cs[off+i*12]? = some (.int .i64 x.dev):=by
 obtain ⟨id,off,c,cs,o,t,h1,h2,h3,h4,h5,⟨w,d,pv,e1,e2,e3,e4,e5⟩,h7⟩:=Sl.at hb.1 hi
 have e6:(cs.drop (off+i*12+3)).take 7=(((cs.drop (off+i*12)).take 12).drop 3).take 7:=by rw [List.drop_take,List.drop_drop,List.take_take];rfl
 refine ⟨id,off,c,cs,o,t,w,d,pv,h1,h2,h3,h5,e1,e2,e3,e4,e5,by rw [e6,e1];rfl,?_,?_,?_,?_,?_,?_⟩
 ·rw [h7 3 (by decide),e1];rfl
 ·rw [h7 10 (by decide),e1];rfl
 ·rw [h7 11 (by decide),e1];rfl
 ·rw [h7 1 (by decide),e1];rfl
 ·rw [h7 2 (by decide),e1];rfl
 ·have:=h7 0 (by decide)
  rw [e1] at this
  exact this
section
variable {S : Sums}
theorem nowC (hS:Mk S) {K:Nat→Nat} {h:AH} {p:Nat} {l:List Hd} (k:Ky) (hw:Vw K h p l) (top:∀j,h.nx≤j→K j=0):RnC Tryz.prog S 64 [.ptr p 0,.agg [.int .i64 k.1,.str k.2.1,.str k.2.2]] h fun r h'=>(∃cs,r=.tup [.agg cs,.bool (nowF l k).2]∧Ra K h' cs (nowF l k).1)∧Fr h h':=by
 refine RnC.enter' Tryz.f64 _ 39 [.cell 4 36,.tmp 5] (hS.nk _ _ _ (by simp)) bd64 Tryz.func64 rfl rfl rfl ?_
 simp -dsimp only [go_sem]
 generalize hg:((h.new (.cells [.int .i64 k.1,.str k.2.1,.str k.2.2] true false)).new (.cells [.str [],.nilsl,.int .i64 0,.bool false,.int .i64 0,.int .i64 0,.nilsl] true false))=g1
 have n1:g1.nx=h.nx+2:=by rw [←hg];rfl
 have f1:Fr h g1:=by rw [←hg];exact (Fr.new _ _).news _
 have q1:g1.get h.nx=some (.cells [.int .i64 k.1,.str k.2.1,.str k.2.2] true false):=by rw [←hg];exact (AH.get_new_ne (by simp)).trans (AH.get_new_eq rfl)
 have q2:g1.get (h.nx+1)=some (.cells [.str [],.nilsl,.int .i64 0,.bool false,.int .i64 0,.int .i64 0,.nilsl] true false):=by rw [←hg];exact AH.get_new_eq rfl
 try simp -dsimp (disch:=repeat first|rw [nxn]|rw [nxp]|omega) only [go_sem,q1]
 refine callK_of (findC hS k (hw.fr f1)) ?_
 rintro r g2 ⟨rfl,f2⟩
 have f12:=f1.trans f2
 have n2:=f2.nx
 have q22:g2.get (h.nx+1)=_:=(f2.get _ (by omega)).trans q2
 have hle:=findK_le l k
 have zero:Ra K (g2.put (h.nx+1) (.cells [.str [],.nilsl,.int .i64 0,.bool false,.int .i64 0,.int .i64 0,.nilsl] true false)) [.str [],.nilsl,.int .i64 0,.bool false,.int .i64 0,.int .i64 0,.nilsl] r0:=ra0 _ _
 cases his:(findK l k).2
 ·rw [nowF_no his]
  simp -dsimp (disch:=repeat first|rw [nxn]|rw [nxp]|omega) only [go_sem,his,bldR0,q22]
  exact ⟨⟨_,by first | trivial | rfl,zero⟩,f12.put _ (by omega)⟩
 obtain ⟨x,hx,hxk⟩:=findK_is his
 have hil:(findK l k).1<l.length:=(List.getElem?_eq_some_iff.1 hx).1
 rw [nowF_at his hx]
 obtain ⟨hv,sv,hp,hpn,hs,os⟩:=(hw.col (K':=Kb K h.nx (h.nx+2)) fun j hj hk=>(Kb.out (.inl hj)).trans hk).fr f12
 obtain ⟨id,off,c,cs,o,t,w,d,pv,rfl,hgi,hidl,hle2,hE,ew,ed,ep,epv,x7,x3,x10,x11,_⟩:=hs.el hx
 have ow:=ew.ln.2.2.2
 have od:=ed.ln.2.2
 have mw:=oneM ow
 have md:=oneM od
 generalize (findK l k).1=m at *
 by_cases h0:x.now.path=[]
 ·rw [if_neg (fun hh=>hh h0)]
  simp -dsimp (disch:=repeat first|rw [nxn]|rw [nxp]|omega) only [go_sem,his,hp,hil,hgi,hle2,x3,eqStr,bE,decide_eq_true h0,bldR0,q22]
  exact ⟨⟨_,by first | trivial | rfl,zero⟩,f12.put _ (by omega)⟩
 ·rw [if_pos h0]
  have hle3:off+m*12+3+7≤cs.length:=by omega
  simp (maxSteps:=9^9) -dsimp (disch:=repeat first|rw [nxn]|rw [nxp]|omega) only [go_sem,his,hp,hil,hgi,hle2,hle3,x3,x7,ow,od,mw,md,eqStr,bE,decide_eq_false h0,q22]
  exact ⟨⟨_,by first | trivial | rfl,Ra.col (K:=Kb K h.nx (h.nx+2)) (Ra.gk (h:=g2) ⟨w,d,rfl,ew,ed,ep⟩ ((Gk.refl _ _).put (.inl (Kb.in (by omega) (by omega))) _)) fun j _ hk=>Kb.z hk⟩,f12.put _ (by omega)⟩
theorem pastC (hS:Mk S) {K:Nat→Nat} {h:AH} {p:Nat} {l:List Hd} (k:Ky) (hw:Vw K h p l) (hst:∀x∈l,x.start≤x.past.length):RnC Tryz.prog S 96 [.ptr p 0,.agg [.int .i64 k.1,.str k.2.1,.str k.2.2]] h fun r h'=>Rs K h' r (pastF l k)∧Fr h h':=by
 refine RnC.enter' Tryz.f96 _ 33 [.tmp 4] (hS.nk _ _ _ (by simp)) bd96 Tryz.func96 rfl rfl rfl ?_
 simp -dsimp only [go_sem]
 have f1:Fr h (h.new (.cells [.int .i64 k.1,.str k.2.1,.str k.2.2] true false)):=Fr.new _ _
 have q1:(h.new (.cells [.int .i64 k.1,.str k.2.1,.str k.2.2] true false)).get h.nx=some (.cells [.int .i64 k.1,.str k.2.1,.str k.2.2] true false):=AH.get_new_eq rfl
 generalize h.new (.cells [.int .i64 k.1,.str k.2.1,.str k.2.2] true false)=g1 at f1 q1 ⊢
 try simp -dsimp only [go_sem,q1]
 refine callK_of (findC hS k (hw.fr f1)) ?_
 rintro r g2 ⟨rfl,f2⟩
 have f12:=f1.trans f2
 cases his:(findK l k).2
 ·have e:pastF l k=[]:=by
   unfold pastF
   cases l[(findK l k).1]? <;> simp [his]
  rw [e]
  simp -dsimp only [go_sem,his]
  exact ⟨⟨.inl ⟨rfl,rfl⟩,Nat.zero_le _⟩,f12⟩
 obtain ⟨x,hx,hxk⟩:=findK_is his
 have hil:(findK l k).1<l.length:=(List.getElem?_eq_some_iff.1 hx).1
 have e:pastF l k=x.past.drop x.start:=by
  unfold pastF
  rw [hx]
  simp [his]
 rw [e]
 have hxs:=hst x (List.mem_iff_getElem?.2 ⟨_,hx⟩)
 obtain ⟨hv,sv,hp,hpn,hs,os⟩:=hw.fr f12
 obtain ⟨id,off,c,cs,o,t,w,d,pv,rfl,hgi,hidl,hle2,hE,ew,ed,ep,epv,x7,x3,x10,x11,_⟩:=hs.el hx
 obtain ⟨spv,opv⟩:=Sl.one epv.1
 generalize (findK l k).1=m at *
 simp -dsimp only [go_sem,his]
 refine syDraw.keepN 0 (fun _=>True) (by kernel_rfl) (by kernel_rfl) rfl ?_
 have fx:Fr g2 { tr:=g2.tr,nx:=g2.nx+20 }:=(Fr.refl g2).more _ (by omega)
 obtain ⟨v',hsl,hv'⟩:=Sl.from epv.1 Tryz.underlying44 tz36 hxs
 have ov':=(Sl.one hv').2
 have hle3:off+m*12+10<cs.length:=by omega
 have hle4:off+m*12+11<cs.length:=by omega
 simp -dsimp (disch:=repeat first|rw [nxn]|rw [nxp]|omega) only [go_sem,hp,hil,hgi,hle2,hle3,hle4,x10,x11,opv,hsl,ov']
 exact ⟨⟨hv'.gk (fx.gk K) fun _ _ hh=>hh.fr fx,by rw [List.length_drop];have:=epv.2;omega⟩,f12.trans fx⟩
end
theorem Rs.ln {K:Nat→Nat} {h:AH} {v:AV} {l:List Rc} (hb:Rs K h v l):(∀g,evLen Tryz.prog g #[44] v=some (.int .i64 (l.length:Nat)))∧sameAV 20 v v=true∧oneA v=true :=
 ⟨Sl.len hb.1 Tryz.underlying44,Sl.one hb.1⟩
theorem Rs.el {K:Nat→Nat} {h:AH} {v:AV} {l:List Rc} {i:Nat} {x:Rc} (hb:Rs K h v l) (hi:l[i]? = some x):∃id off c cs o t w d,v=.sl id off l.length 7 c∧h.get id=some (.cells cs o t)∧id<h.nx∧off+i*7+7≤cs.length∧(cs.drop (off+i*7)).take 7=[.str x.path,w,.int .i64 x.own,.bool x.gone,.int .i64 x.size,.int .i64 x.len,d]∧Cv K h w x.vec∧Dv K h d x.digs∧x.path.length≤1000000∧cs[off+i*7]? = some (.str x.path):=by
 obtain ⟨id,off,c,cs,o,t,h1,h2,h3,h4,h5,⟨w,d,e1,e2,e3,e4⟩,h7⟩:=Sl.at hb.1 hi
 refine ⟨id,off,c,cs,o,t,w,d,h1,h2,h3,h5,e1,e2,e3,e4,?_⟩
 have:=h7 0 (by decide)
 rw [e1] at this
 exact this
section
variable {S : Sums}
structure Mo (S:Sums):Prop extends Mk S where
 no:∀f args h,f∈[38,51,67,97,99,66,37,50,93,119,65,68,74,70,73]→S f args h=none
theorem idxC (hS:Mo S) {K:Nat→Nat} {h:AH} {v:AV} {l:List Rc} {f:FuncId} {caps:List AV} {R:Rc→Bool→Prop} (hv:Rs K h v l) (hf:∀g cs x,Fr h g→Ra K g cs x→x∈l→RnC Tryz.prog S f (.agg cs::caps) g fun r g'=>(∃b,r=.bool b∧R x b)∧Fr g g'):RnC Tryz.prog S 51 [v,.func (.func f) [] caps] h fun r h'=>(∃n:Int,r=.int .i64 n∧(0≤n→∃x∈l,R x true)∧(n<0→∀x∈l,R x false))∧Fr h h':=by
 refine RnC.enter' Tryz.f51 _ 19 [.tmp 4] (hS.no _ _ _ (by simp)) bd51 Tryz.func51 rfl rfl rfl ?_
 obtain ⟨lv,sv,ov⟩:=hv.ln
 have hl:=hv.2
 simp -dsimp only [go_sem,lv,ov]
 refine loopK_of (RnL.rounds (Q:=fun ex u=>u.d=[]∧Fr h u.h∧(ex=.exit 0∧(∀x∈l,R x false)∨ex=.ret∧∃n:Nat,u.t.get 4=some (.int .i64 (n:Nat))∧∃x∈l,R x true))
  (fun m u=>u.d=[]∧Fr h u.h∧u.t.get 0=some v∧u.t.get 1=some (.func (.func f) [] caps)∧u.t.get 7=some (.int .i64 (l.length:Nat))∧∃i:Nat,u.t.get 8=some (.int .i64 (i:Nat))∧i≤l.length∧(∀x∈l.take i,R x false)∧m=l.length-i) ?_ l.length ?_) ?_
 ·rintro m ⟨tt,g,q⟩ ⟨e2,e1,g0,g1,g7,i,g8,hi,hno,rfl⟩
  dsimp only at e1 e2 g0 g1 g7 g8
  subst e2
  by_cases c4:(i:Int)<(l.length:Nat)
  ·have hil:i<l.length:=by omega
   obtain ⟨x,hx⟩:∃x,l[i]? = some x:=⟨_,List.getElem?_eq_getElem hil⟩
   have hxm:x∈l:=List.mem_iff_getElem?.2 ⟨i,hx⟩
   obtain ⟨id,off,c,cs,o,t,w,d,rfl,hgi,hidl,hle,hE,hw,hd,hp,x0⟩:=(hv.fr e1).el hx
   have ow:=hw.ln.2.2.2
   have od:=hd.ln.2.2
   simp -dsimp (disch:=repeat first|rw [nxn]|rw [nxp]|omega) only [go_sem,c4,g0,g1,g7,g8,hil,hgi,hle,hE,ow,od]
   refine callK_of (hf g _ x e1 ⟨w,d,rfl,hw,hd,hp⟩ hxm) ?_
   rintro r g2 ⟨⟨b,rfl,hR⟩,f2⟩
   cases b
   ·simp -dsimp (disch:=repeat first|rw [nxn]|rw [nxp]|omega) only [go_sem,g0,g1,g7,g8]
    exact ⟨l.length-(i+1),by omega,trivial,e1.trans f2,trivial,trivial,trivial,i+1,rfl,by omega,fun y hy=>by
     rw [List.take_add_one,hx] at hy
     rcases List.mem_append.1 hy with hh | hh
     ·exact hno y hh
     ·rw [List.mem_singleton.1 hh];exact hR,rfl⟩
   ·simp -dsimp only [go_sem,g0,g1,g7,g8]
    exact ⟨trivial,e1.trans f2,.inr ⟨trivial,i,rfl,x,hxm,hR⟩⟩
  ·have:i=l.length:=by omega
   subst this
   rw [List.take_length] at hno
   simp -dsimp only [go_sem,c4,g0,g1,g7,g8]
   exact ⟨trivial,e1,.inl ⟨trivial,hno⟩⟩
 ·simp -dsimp only [go_sem]
  exact ⟨trivial,Fr.refl _,trivial,trivial,trivial,0,rfl,Nat.zero_le _,fun x hx=>by simp at hx,rfl⟩
 ·rintro ex ⟨tt,g,q⟩ ⟨rfl,e1,⟨rfl,hno⟩ | ⟨rfl,n,t4,hy⟩⟩
  ·dsimp only at e1
   simp -dsimp only [go_sem]
   exact ⟨⟨_,rfl,fun hh=>absurd hh (by decide),fun _=>hno⟩,e1⟩
  ·dsimp only at e1 t4
   simp -dsimp only [go_sem,t4]
   exact ⟨⟨_,rfl,fun _=>hy,fun hh=>absurd hh (by omega)⟩,e1⟩
theorem conC (hS:Mo S) {K:Nat→Nat} {h:AH} {v:AV} {l:List Rc} {f:FuncId} {caps:List AV} {R:Rc→Bool→Prop} (hv:Rs K h v l) (hf:∀g cs x,Fr h g→Ra K g cs x→x∈l→RnC Tryz.prog S f (.agg cs::caps) g fun r g'=>(∃b,r=.bool b∧R x b)∧Fr g g'):RnC Tryz.prog S 38 [v,.func (.func f) [] caps] h fun r h'=>(∃b,r=.bool b∧(b=true→∃x∈l,R x true)∧(b=false→∀x∈l,R x false))∧Fr h h':=by
 refine RnC.enter' Tryz.f38 _ 9 [.tmp 4] (hS.no _ _ _ (by simp)) bd38 Tryz.func38 rfl rfl rfl ?_
 obtain ⟨lv,sv,ov⟩:=hv.ln
 simp -dsimp only [go_sem,ov]
 refine callK_of (idxC hS hv hf) ?_
 rintro r g ⟨⟨n,rfl,h1,h2⟩,fg⟩
 try simp -dsimp only [go_sem]
 exact ⟨⟨decide (0≤n),by first | trivial | rfl,fun hh=>h1 (of_decide_eq_true hh),fun hh=>h2 (by have:=of_decide_eq_false hh;omega)⟩,fg⟩
def backF (l:List Hd) (k:Ky) (r:Rc):Bool:=!r.gone&&(pastF l k).any fun p=>decide (cmpV r.vec p.vec=2)||decide (cmpV r.vec p.vec=1)
theorem back1C (hS:Mo S) {K:Nat→Nat} {h:AH} {bx:Nat} {cs cr:List AV} {x r:Rc} (hx:Ra K h cs x) (hb:h.get bx=some (.cells cr true false)) (hr:Ra K h cr r) (hn:bx<h.nx):RnC Tryz.prog S 97 [.agg cs,.ptr bx 0] h fun v h'=>(∃b,v=.bool b∧b=(decide (cmpV r.vec x.vec=2)||decide (cmpV r.vec x.vec=1)))∧Fr h h':=by
 obtain ⟨w,d,rfl,hw,hd,_⟩:=hx
 obtain ⟨v,e,rfl,hv,he,_⟩:=hr
 refine RnC.enter' Tryz.f97 _ 16 [.tmp 3] (hS.no _ _ _ (by simp)) bd97 Tryz.func97 rfl rfl rfl ?_
 have ow:=hw.ln.2.2.2
 have od:=hd.ln.2.2
 have ov:=hv.ln.2.2.2
 have mw:=oneM ow
 have md:=oneM od
 have hb2:∀o,(h.new o).get bx=_:=fun o=>((Fr.new h o).get _ hn).trans hb
 simp -dsimp only [go_sem,hb2,ow,od,ov,mw,md]
 refine callK_of (cmpC hS.toMv (hv.fr (Fr.new _ _)) (hw.fr (Fr.new _ _))) ?_
 rintro vv g ⟨rfl,f⟩
 by_cases h1:cmpV r.vec x.vec=2
 ·simp -dsimp only [go_sem,h1]
  exact ⟨⟨_,rfl,by simp [h1]⟩,(Fr.new _ _).trans f⟩
 ·by_cases h3:cmpV r.vec x.vec=1
  ·simp -dsimp only [go_sem,h1,h3]
   exact ⟨⟨_,rfl,by simp [h3]⟩,(Fr.new _ _).trans f⟩
  ·simp -dsimp only [go_sem,h1,h3]
   exact ⟨⟨_,rfl,by simp [h1,h3]⟩,(Fr.new _ _).trans f⟩
theorem backC (hS:Mo S) {K:Nat→Nat} {h:AH} {p:Nat} {l:List Hd} {cr:List AV} {r:Rc} (k:Ky) (hw:Vw K h p l) (hst:∀x∈l,x.start≤x.past.length) (hr:Ra K h cr r):RnC Tryz.prog S 67 [.ptr p 0,.agg [.int .i64 k.1,.str k.2.1,.str k.2.2],.agg cr] h fun v h'=>v=.bool (backF l k r)∧Fr h h':=by
 have hr0:=hr
 obtain ⟨w,d,rfl,hwv,hd,_⟩:=hr
 refine RnC.enter' Tryz.f67 _ 14 [.tmp 6] (hS.no _ _ _ (by simp)) bd67 Tryz.func67 rfl rfl rfl ?_
 have ow:=hwv.ln.2.2.2
 have od:=hd.ln.2.2
 have mw:=oneM ow
 have md:=oneM od
 unfold backF
 simp -dsimp only [go_sem,ow,od,mw,md]
 generalize hg:((h.new (.cells [.int .i64 k.1,.str k.2.1,.str k.2.2] true false)).new (.cells [.str r.path,w,.int .i64 r.own,.bool r.gone,.int .i64 r.size,.int .i64 r.len,d] true false))=g1
 have n1:g1.nx=h.nx+2:=by rw [←hg];rfl
 have f1:Fr h g1:=by rw [←hg];exact (Fr.new _ _).news _
 have q1:g1.get h.nx=some (.cells [.int .i64 k.1,.str k.2.1,.str k.2.2] true false):=by rw [←hg];exact (AH.get_new_ne (by simp)).trans (AH.get_new_eq rfl)
 have q2:g1.get (h.nx+1)=some (.cells [.str r.path,w,.int .i64 r.own,.bool r.gone,.int .i64 r.size,.int .i64 r.len,d] true false):=by rw [←hg];exact AH.get_new_eq rfl
 cases hgn:r.gone
 case true =>
  try simp -dsimp only [go_sem,q2,hgn]
  exact ⟨by simp,f1⟩
 try simp -dsimp only [go_sem,q1,q2,hgn]
 refine callK_of (pastC hS.toMk k (hw.fr f1) hst) ?_
 rintro v g2 ⟨hv2,f2⟩
 have ov2:=hv2.ln.2.2
 have f12:=f1.trans f2
 have n2:=f2.nx
 try simp -dsimp only [go_sem,ov2]
 refine callK_of (conC hS (R:=fun x b=>b=(decide (cmpV r.vec x.vec=2)||decide (cmpV r.vec x.vec=1))) hv2 fun g cs x fg hx _=>back1C hS (r:=r) hx ((fg.get _ (by omega)).trans ((f2.get _ (by omega)).trans q2)) ((hr0.fr f12).fr fg) (by have:=fg.nx;omega)) ?_
 rintro v3 g3 ⟨⟨b,rfl,hb1,hb2⟩,f3⟩
 try simp -dsimp only [go_sem]
 refine ⟨?_,f12.trans f3⟩
 have:(pastF l k).any (fun p=>decide (cmpV r.vec p.vec=2)||decide (cmpV r.vec p.vec=1))=b:=by
  cases b
  ·rw [List.any_eq_false]
   intro x hx
   have:=hb2 rfl x hx
   rw [←this];decide
  ·rw [List.any_eq_true]
   obtain ⟨x,hx,e⟩:=hb1 rfl
   exact ⟨x,hx,e.symm⟩
 rw [this]
 try simp
theorem keepsC (hS:Mo S) {K:Nat→Nat} {h:AH} {p:Nat} {l:List Hd} {cv cr:List AV} {x r:Rc} (k:Ky) (hw:Vw K h p l) (hx:Ra K h cv x) (hr:Ra K h cr r) (top:∀j,h.nx≤j→K j=0):RnC Tryz.prog S 99 [.ptr p 0,.agg [.int .i64 k.1,.str k.2.1,.str k.2.2],.agg cv,.agg cr] h fun v h'=>(∃b,v=.bool b)∧Fr h h':=by
 obtain ⟨w,d,rfl,hwv,hd,_⟩:=hr
 obtain ⟨w2,d2,rfl,hwv2,hd2,_⟩:=hx
 refine RnC.enter' Tryz.f99 _ 43 [.tmp 8] (hS.no _ _ _ (by simp)) bd99 Tryz.func99 rfl rfl rfl ?_
 have ow:=hwv.ln.2.2.2
 have od:=hd.ln.2.2
 have mw:=oneM ow
 have md:=oneM od
 have ow2:=hwv2.ln.2.2.2
 have od2:=hd2.ln.2.2
 have mw2:=oneM ow2
 have md2:=oneM od2
 simp -dsimp only [go_sem,ow,od,mw,md,ow2,od2,mw2,md2]
 generalize hg:(((h.new (.cells [.int .i64 k.1,.str k.2.1,.str k.2.2] true false)).new (.cells [.str x.path,w2,.int .i64 x.own,.bool x.gone,.int .i64 x.size,.int .i64 x.len,d2] true false)).new (.cells [.str r.path,w,.int .i64 r.own,.bool r.gone,.int .i64 r.size,.int .i64 r.len,d] true false))=g1
 have n1:g1.nx=h.nx+3:=by rw [←hg];rfl
 have f1:Fr h g1:=by rw [←hg];exact ((Fr.new _ _).news _).news _
 have q1:g1.get h.nx=some (.cells [.int .i64 k.1,.str k.2.1,.str k.2.2] true false):=by rw [←hg];exact (AH.get_new_ne (by simp [AH.new];omega)).trans ((AH.get_new_ne (by simp)).trans (AH.get_new_eq rfl))
 have q2:g1.get (h.nx+1)=some (.cells [.str x.path,w2,.int .i64 x.own,.bool x.gone,.int .i64 x.size,.int .i64 x.len,d2] true false):=by rw [←hg];exact (AH.get_new_ne (by simp [AH.new])).trans (AH.get_new_eq rfl)
 have q3:g1.get (h.nx+2)=some (.cells [.str r.path,w,.int .i64 r.own,.bool r.gone,.int .i64 r.size,.int .i64 r.len,d] true false):=by rw [←hg];exact AH.get_new_eq rfl
 try simp -dsimp only [go_sem,q1]
 refine callK_of (nowC hS.toMk k (hw.fr f1) fun j hj=>top j (by omega)) ?_
 rintro v g2 ⟨⟨cn,rfl,hn⟩,f2⟩
 have f12:=f1.trans f2
 have n2:=f2.nx
 generalize (nowF l k).1=y at hn
 generalize (nowF l k).2=is
 obtain ⟨w3,d3,rfl,hw3,hd3,_⟩:=hn
 have ow3:=hw3.ln.2.2.2
 have od3:=hd3.ln.2.2
 have mw3:=oneM ow3
 have md3:=oneM od3
 have f3:Fr g2 ((g2.new (.cells [.str [],.nilsl,.int .i64 0,.bool false,.int .i64 0,.int .i64 0,.nilsl] true false)).put g2.nx (.cells [.str y.path,w3,.int .i64 y.own,.bool y.gone,.int .i64 y.size,.int .i64 y.len,d3] true false)):=(Fr.new _ _).put _ (Nat.le_refl _)
 have q34:((g2.new (.cells [.str [],.nilsl,.int .i64 0,.bool false,.int .i64 0,.int .i64 0,.nilsl] true false)).put g2.nx (.cells [.str y.path,w3,.int .i64 y.own,.bool y.gone,.int .i64 y.size,.int .i64 y.len,d3] true false)).get g2.nx=some (.cells [.str y.path,w3,.int .i64 y.own,.bool y.gone,.int .i64 y.size,.int .i64 y.len,d3] true false):=AH.get_put_eq rfl
 have q32:=(f3.get (h.nx+1) (by omega)).trans ((f2.get _ (by omega)).trans q2)
 have q33:=(f3.get (h.nx+2) (by omega)).trans ((f2.get _ (by omega)).trans q3)
 cases is
 ·simp -dsimp only [go_sem,ow3,od3,mw3,md3,q34,q32,q33,ow,od,ow2,od2]
  exact ⟨⟨_,rfl⟩,f12.trans f3⟩
 cases hyg:y.gone
 case true =>
  rw [hyg] at q34 q32 q33 f3
  simp -dsimp only [go_sem,ow3,od3,mw3,md3,hyg,q34,q32,q33,ow,od,ow2,od2]
  exact ⟨⟨_,rfl⟩,f12.trans f3⟩
 rw [hyg] at q34 q32 q33 f3
 have n3:g2.nx+1=((g2.new (.cells [.str [],.nilsl,.int .i64 0,.bool false,.int .i64 0,.int .i64 0,.nilsl] true false)).put g2.nx (.cells [.str y.path,w3,.int .i64 y.own,.bool false,.int .i64 y.size,.int .i64 y.len,d3] true false)).nx:=rfl
 simp -dsimp only [go_sem,ow3,od3,mw3,md3,hyg,q34,q32,q33,ow,od,ow2,od2]
 generalize (g2.new (.cells [.str [],.nilsl,.int .i64 0,.bool false,.int .i64 0,.int .i64 0,.nilsl] true false)).put g2.nx (.cells [.str y.path,w3,.int .i64 y.own,.bool false,.int .i64 y.size,.int .i64 y.len,d3] true false)=g3 at f3 q34 q32 q33 n3 ⊢
 have f13:=f12.trans f3
 refine callK_of (cmpC hS.toMv (hw3.fr f3) (hwv2.fr f13)) ?_
 rintro v g4 ⟨rfl,f4⟩
 have q43:g4.get (h.nx+2)=_:=(f4.get _ (by omega)).trans q33
 have q44:g4.get g2.nx=_:=(f4.get _ (by omega)).trans q34
 generalize cmpV y.vec x.vec=cc
 by_cases hc:cc=4
 case neg =>
  simp -dsimp only [go_sem,hc]
  exact ⟨⟨_,rfl⟩,f13.trans f4⟩
 cases hrg:r.gone
 case true =>
  rw [hrg] at q43
  simp -dsimp only [go_sem,hc,q43]
  exact ⟨⟨_,rfl⟩,f13.trans f4⟩
 rw [hrg] at q43
 simp -dsimp only [go_sem,hc,q43,q44,od,od3,md,md3]
 refine callK_of (blockSameC hS.toMr (a:=y) (b:=r) (hd3.fr (f3.trans f4)) (hd.fr (f13.trans f4))) ?_
 rintro v g5 ⟨rfl,f5⟩
 try simp -dsimp only [go_sem]
 exact ⟨⟨_,rfl⟩,(f13.trans f4).trans f5⟩
end
section
variable {S : Sums}
theorem changedC (hS:Mo S) {K:Nat→Nat} {h:AH} {p:Nat} {l:List Hd} {cr:List AV} {r:Rc} (k:Ky) (hw:Vw K h p l) (hr:Ra K h cr r) (top:∀j,h.nx≤j→K j=0):RnC Tryz.prog S 66 [.ptr p 0,.agg [.int .i64 k.1,.str k.2.1,.str k.2.2],.agg cr] h fun v h'=>(∃b,v=.bool b∧(b=true→r.path=k.2.2))∧Fr h h':=by
 have hr0:=hr
 obtain ⟨w,d,rfl,hwv,hd,_⟩:=hr
 refine RnC.enter' Tryz.f66 _ 67 [.tmp 6] (hS.no _ _ _ (by simp)) bd66 Tryz.func66 rfl rfl rfl ?_
 have ow:=hwv.ln.2.2.2
 have od:=hd.ln.2.2
 have sw:=hwv.ln.2.2.1
 have mw:=oneM ow
 have md:=oneM od
 simp -dsimp only [go_sem,ow,od,mw,md]
 generalize hg:((h.new (.cells [.int .i64 k.1,.str k.2.1,.str k.2.2] true false)).new (.cells [.str r.path,w,.int .i64 r.own,.bool r.gone,.int .i64 r.size,.int .i64 r.len,d] true false))=g1
 have n1:g1.nx=h.nx+2:=by rw [←hg];rfl
 have f1:Fr h g1:=by rw [←hg];exact (Fr.new _ _).news _
 have q1:g1.get h.nx=some (.cells [.int .i64 k.1,.str k.2.1,.str k.2.2] true false):=by rw [←hg];exact (AH.get_new_ne (by simp)).trans (AH.get_new_eq rfl)
 have q2:g1.get (h.nx+1)=some (.cells [.str r.path,w,.int .i64 r.own,.bool r.gone,.int .i64 r.size,.int .i64 r.len,d] true false):=by rw [←hg];exact AH.get_new_eq rfl
 try simp -dsimp only [go_sem,q1]
 refine callK_of (nowC hS.toMk k (hw.fr f1) fun j hj=>top j (by omega)) ?_
 rintro v g2 ⟨⟨cn,rfl,hn⟩,f2⟩
 have f12:=f1.trans f2
 have n2:=f2.nx
 generalize (nowF l k).1=y at hn
 generalize (nowF l k).2=is
 obtain ⟨w3,d3,rfl,hw3,hd3,_⟩:=hn
 have ow3:=hw3.ln.2.2.2
 have sw3:=hw3.ln.2.2.1
 have od3:=hd3.ln.2.2
 have mw3:=oneM ow3
 have md3:=oneM od3
 have f3:Fr g2 ((g2.new (.cells [.str [],.nilsl,.int .i64 0,.bool false,.int .i64 0,.int .i64 0,.nilsl] true false)).put g2.nx (.cells [.str y.path,w3,.int .i64 y.own,.bool y.gone,.int .i64 y.size,.int .i64 y.len,d3] true false)):=(Fr.new _ _).put _ (Nat.le_refl _)
 have q34:((g2.new (.cells [.str [],.nilsl,.int .i64 0,.bool false,.int .i64 0,.int .i64 0,.nilsl] true false)).put g2.nx (.cells [.str y.path,w3,.int .i64 y.own,.bool y.gone,.int .i64 y.size,.int .i64 y.len,d3] true false)).get g2.nx=some (.cells [.str y.path,w3,.int .i64 y.own,.bool y.gone,.int .i64 y.size,.int .i64 y.len,d3] true false):=AH.get_put_eq rfl
 have q31:=(f3.get h.nx (by omega)).trans ((f2.get _ (by omega)).trans q1)
 have q32:=(f3.get (h.nx+1) (by omega)).trans ((f2.get _ (by omega)).trans q2)
 have n3:g2.nx+1=((g2.new (.cells [.str [],.nilsl,.int .i64 0,.bool false,.int .i64 0,.int .i64 0,.nilsl] true false)).put g2.nx (.cells [.str y.path,w3,.int .i64 y.own,.bool y.gone,.int .i64 y.size,.int .i64 y.len,d3] true false)).nx:=rfl
 have f13:=f12.trans f3
 by_cases h1:r.own=k.1
 case neg =>
  simp -dsimp only [go_sem,ow3,od3,mw3,md3,q31,q32,h1]
  exact ⟨⟨_,rfl,fun hh=>by cases hh⟩,f13⟩
 by_cases h2:r.path=k.2.2
 case neg =>
  simp -dsimp only [go_sem,ow3,od3,mw3,md3,q31,q32,h1,neStr,decide_eq_false h2]
  exact ⟨⟨_,rfl,fun hh=>by cases hh⟩,f13⟩
 simp -dsimp only [go_sem,ow3,od3,mw3,md3,q31,q32,h1,neStr,decide_eq_true h2,ow,od,mw,md]
 generalize (g2.new (.cells [.str [],.nilsl,.int .i64 0,.bool false,.int .i64 0,.int .i64 0,.nilsl] true false)).put g2.nx (.cells [.str y.path,w3,.int .i64 y.own,.bool y.gone,.int .i64 y.size,.int .i64 y.len,d3] true false)=g3 at f3 q34 q31 q32 n3 f13 ⊢
 have hro:Ra K g3 [.str r.path,w,.int .i64 r.own,.bool r.gone,.int .i64 r.size,.int .i64 r.len,d] r:=hr0.fr f13
 refine callK_of (rCheckC hS.toMc (by rw [h1] at hro;exact hro)) ?_
 rintro v g4 ⟨⟨e,rfl⟩,f4⟩
 have f14:=f13.trans f4
 by_cases he:e=0
 case neg =>
  simp -dsimp only [go_sem,he]
  exact ⟨⟨_,rfl,fun hh=>by cases hh⟩,f14⟩
 have q41:=(f4.get h.nx (by omega)).trans q31
 have q42:=(f4.get (h.nx+1) (by omega)).trans q32
 have q44:=(f4.get g2.nx (by omega)).trans q34
 have hy4:=hw3.fr (f3.trans f4)
 have hr4:=hwv.fr f14
 have n4:=f4.nx
 simp -dsimp only [go_sem,he]
 refine loopK_of (RnL.rounds (Q:=fun ex u=>u.d=[]∧Fr g4 u.h∧(ex=.exit 0∨ex=.ret∧u.t.get 6=some (.bool false)))
  (fun m u=>u.d=[]∧Fr g4 u.h∧u.t.get 4=some (.ptr h.nx 0)∧u.t.get 5=some (.ptr (h.nx+1) 0)∧u.t.get 7=some (.ptr g2.nx 0)∧∃n:Nat,u.t.get 9=some (.int .i64 ((n+1:Nat):Int))∧n≤16∧m=16-n) ?_ 16 ?_) ?_
 ·rintro m ⟨tt,g,q⟩ ⟨e2,e1,t4,t5,t7,n,t9,hn,rfl⟩
  dsimp only at e1 e2 t4 t5 t7 t9
  subst e2
  by_cases c4:((n+1:Nat):Int)≤16
  ·have r1:=(e1.get h.nx (by omega)).trans q41
   have r2:=(e1.get (h.nx+1) (by omega)).trans q42
   have r4:=(e1.get g2.nx (by omega)).trans q44
   have n5:=e1.nx
   simp -dsimp only [go_sem,c4,t4,t5,t7,t9]
   refine syDraw.keepN 8 (fun j=>j=h.nx+1∨j=g2.nx) (by kernel_rfl) (by kernel_rfl) rfl ?_
   have fx:Fr g { tr:=g.tr,nx:=g.nx+10 }:=(Fr.refl g).more _ (by omega)
   simp -dsimp only [go_sem,r2,r4,t4,t5,t7,t9,ow,sw,ow3,sw3,true_and,true_or,or_true,implies_true,svi,svb,svs,svp]
   refine callK_of (vValueC hS.toMv ((n+1:Nat):Int) ((hy4.fr e1).fr fx)) ?_
   rintro v g5 ⟨rfl,f5⟩
   have n6:g.nx+10≤g5.nx:=f5.nx
   refine ⟨fun j hj=>f5.get j (by show j<g.nx+10;omega),?_⟩
   have f45:=(e1.trans fx).trans f5
   have r52:=(f45.get (h.nx+1) (by omega)).trans q42
   simp -dsimp only [go_sem,r52,t4,t5,t7,t9,ow,sw,ow3,sw3,true_and,true_or,or_true,implies_true,svi,svb,svs,svp]
   refine callK_of (vValueC hS.toMv ((n+1:Nat):Int) (hr4.fr f45)) ?_
   rintro v g6 ⟨rfl,f6⟩
   refine ⟨fun j hj=>f6.get j (by omega),?_⟩
   have f46:=f45.trans f6
   have r61:=(f46.get h.nx (by omega)).trans q41
   generalize valV y.vec ((n+1:Nat):Int)=x1
   generalize valV r.vec ((n+1:Nat):Int)=x2
   by_cases hk1:((n+1:Nat):Int)=k.1
   ·by_cases hx:x2≤x1
    ·try simp -dsimp only [go_sem,t4,t5,t7,t9,r61,hk1,hx]
     exact ⟨trivial,f46,.inr ⟨trivial,trivial⟩⟩
    ·try simp -dsimp (disch:=repeat first|rw [nxn]|rw [nxp]|omega) only [go_sem,t4,t5,t7,t9,r61,hk1,hx]
     exact ⟨16-(n+1),by omega,trivial,f46,trivial,trivial,trivial,n+1,by first | rfl | (rw [←hk1];rfl) | (congr 1;congr 1;omega),by omega,rfl⟩
   ·by_cases hx:x1=x2
    ·try simp -dsimp (disch:=repeat first|rw [nxn]|rw [nxp]|omega) only [go_sem,t4,t5,t7,t9,r61,hk1,hx]
     exact ⟨16-(n+1),by omega,trivial,f46,trivial,trivial,trivial,n+1,rfl,by omega,rfl⟩
    ·try simp -dsimp only [go_sem,t4,t5,t7,t9,r61,hk1,hx]
     exact ⟨trivial,f46,.inr ⟨trivial,trivial⟩⟩
  ·simp -dsimp only [go_sem,c4,t4,t5,t7,t9]
   exact ⟨trivial,e1,.inl trivial⟩
 ·simp -dsimp only [go_sem]
  exact ⟨trivial,Fr.refl _,trivial,trivial,trivial,0,rfl,by decide,rfl⟩
 ·rintro ex ⟨tt,g,q⟩ ⟨rfl,e1,rfl | ⟨rfl,t6⟩⟩
  ·dsimp only at e1
   simp -dsimp only [go_sem]
   exact ⟨⟨_,rfl,fun _=>h2⟩,f14.trans e1⟩
  ·dsimp only at e1 t6
   simp -dsimp only [go_sem,t6]
   exact ⟨⟨_,rfl,fun hh=>by cases hh⟩,f14.trans e1⟩
end
end Go.Proofs.YtihigekgnnoejaaGreatDoor.mdl
end