/- Texts joined: RAa, RAb, RAc, RAd, RAe, RAf. -/
import Derived.Test.YtaooopaemphfjaaGreatDoorFacts
import Derived.Test.YtaooopaemphfjaaGreatDoorAb6
import Derived.Test.YtaooopaemphfjaaGreatDoorAb7
set_option maxRecDepth 100000
set_option linter.unusedVariables false
set_option linter.unusedSimpArgs false
set_option maxHeartbeats 16000000
section
namespace Go.Proofs.YtaooopaemphfjaaGreatDoor.tbl
open Go Go.Abs Go.Proofs
def TpA (K:Nat→Nat) (h:AH):AV→Tp→Prop
 | v,.nil=>v=.nilptr
 | v,.nd k x l r=>∃id lv rv,v=.ptr id 0∧h.get id=some (.cells [.str k,.str x,.int .u32 (iw (rankA k)),.int .i64 ((l.size+r.size+1:Nat):Int),lv,rv] true false)∧id<h.nx∧K id=0∧TpA K h lv l∧TpA K h rv r
theorem TpA.fr {K:Nat→Nat} {h h':AH} (f:Fr h h'):∀ {t:Tp} {v:AV},TpA K h v t→TpA K h' v t
 | .nil,v,hv=>hv
 | .nd k x l r,v,⟨id,lv,rv,h1,h2,h3,h4,h5,h6⟩=>⟨id,lv,rv,h1,(f.get id h3).trans h2,Nat.lt_of_lt_of_le h3 f.nx,h4,TpA.fr f h5,TpA.fr f h6⟩
theorem TpA.one {K:Nat→Nat} {h:AH}:∀ {t:Tp} {v:AV},TpA K h v t→oneA v=true∧sameAV 20 v v=true
 | .nil,v,hv=>by cases hv;exact ⟨rfl,rfl⟩
 | .nd k x l r,v,⟨id,lv,rv,h1,_⟩=>by subst h1;exact ⟨rfl,by simp [sameAV]⟩
theorem TpA.shape {K:Nat→Nat} {h:AH} {t:Tp} {v:AV} (hv:TpA K h v t):v=.nilptr∨∃id,v=.ptr id 0:=by
 cases t with
 | nil=>exact .inl hv
 | nd k x l r=>obtain ⟨id,lv,rv,h1,_⟩:=hv;exact .inr ⟨id,h1⟩
theorem eqNn (h:AH):binA Tryz.prog h .eql 34 .nilptr .nilptr=some (.bool true):=by kernel_rfl
theorem eqNp (h:AH) (a:Nat):binA Tryz.prog h .eql 34 (.ptr a 0) .nilptr=some (.bool false):=by kernel_rfl
theorem neNn (h:AH):binA Tryz.prog h .neq 34 .nilptr .nilptr=some (.bool false):=by kernel_rfl
theorem neNp (h:AH) (a:Nat):binA Tryz.prog h .neq 34 (.ptr a 0) .nilptr=some (.bool true):=by kernel_rfl
theorem ltSt (h:AH) (a b:List Nat):binA Tryz.prog h .lss 9 (.str a) (.str b)=some (.bool (lessA a b)):=by
 simp [binA,strA]
theorem eqSt (h:AH) (a b:List Nat):binA Tryz.prog h .eql 9 (.str a) (.str b)=some (.bool (decide (a=b))):=by
 simp [binA,strA,eqL_eq]
theorem mul_w (h:AH) (t:TypeId) (x:W32):binA Tryz.prog h .mul t (.int .u32 (iw x)) (.int .u32 16777619)=some (.int .u32 (iw (x*16777619#32))):=by
 rw [binA_mul]
 have:IntKind.u32.wrap (iw x*16777619)=iw (x*16777619#32):=by
  have e:iw x*16777619=((x.toNat*16777619:Nat):Int):=by simp [iw]
  rw [e,wrap32_nat,iw,BitVec.toNat_mul]
  rfl
 rw [this]
section
variable {S : Sums}
structure Tb (S:Sums):Prop where
 nt:∀f args h,f∈[123,88,143,144,121,122,73,15,72,63,37,17,38,54,34]→S f args h=none
theorem rankC (hS:Tb S) {h:AH} (k:List Nat) (hk:k.length≤1000000):RnC Tryz.prog S 123 [.str k] h fun r h'=>r=.int .u32 (iw (rankA k))∧h'=h:=by
 refine RnC.enter' Tryz.f123 _ 19 [.tmp 2] (hS.nt _ _ _ (by simp)) bd123 Tryz.func123 rfl rfl rfl ?_
 have ls:∀g s,evLen Tryz.prog g #[9] (.str s)=some (.int .i64 ((s.length:Nat):Int)):=fun g s=>by simp [evLen,Tryz.underlying9]
 have cvb:∀(h:AH) (b:Nat),evConvert Tryz.prog h 5 81 (.int .u8 (b:Int))=some (.val (.int .u32 (iw (BitVec.ofNat 32 b))) h):=fun h b=>conv_w Tryz.underlying5 Tryz.underlying81 h b
 have i0:(2166136261:Int)=iw 2166136261#32:=by decide
 simp -dsimp (disch:=(repeat first | rw [nxn] | rw [nxp]);try omega) only [go_sem,ls]
 refine loopK_of (RnL.rounds (Q:=fun ex u=>ex=.exit 0∧u.d=[]∧u.h=h∧u.t.get 3=some (.int .u32 (iw (rankA k))))
  (fun m u=>u.d=[]∧u.h=h∧u.t.get 0=some (.str k)∧u.t.get 6=some (.int .i64 (k.length:Nat))∧∃i:Nat,u.t.get 7=some (.int .i64 (i:Nat))∧u.t.get 3=some (.int .u32 (iw (rankA (k.take i))))∧i≤k.length∧m=k.length-i) ?_ k.length ?_) ?_
 ·rintro m ⟨t,g,d⟩ ⟨e2,e1,g0,g6,i,g7,g3,hi,rfl⟩
  dsimp only at e1 e2 g0 g6 g7 g3
  subst e1 e2
  by_cases c4:(i:Int)<(k.length:Nat)
  ·have hil:i<k.length:=by omega
   obtain ⟨b,hb⟩:∃b,k[i]? = some b:=⟨_,List.getElem?_eq_getElem hil⟩
   have ixb:evIndex Tryz.prog 9 (.str k) (.int .i64 (i:Nat))=some (.int .u8 (b:Int)):=by
    unfold evIndex
    simp only [Tryz.underlying9]
    rw [below_of (by omega) (by omega)]
    simp [hb]
   have hr:rankA (k.take (i+1))=(rankA (k.take i) ^^^ BitVec.ofNat 32 b)*16777619#32:=by
    rw [List.take_add_one,hb]
    unfold rankA
    rw [List.foldl_append];rfl
   simp -dsimp (disch:=(repeat first | rw [nxn] | rw [nxp]);try omega) only [go_sem,c4,g0,g6,g7,g3,ixb,cvb,mul_w]
   exact ⟨k.length-(i+1),by omega,trivial,trivial,trivial,trivial,i+1,rfl,by rw [hr],by omega,rfl⟩
  ·have:i=k.length:=by omega
   subst this
   rw [List.take_length] at g3
   simp -dsimp (disch:=(repeat first | rw [nxn] | rw [nxp]);try omega) only [go_sem,c4,g0,g6,g7,g3]
   exact ⟨trivial,trivial,trivial,trivial⟩
 ·simp -dsimp (disch:=(repeat first | rw [nxn] | rw [nxp]);try omega) only [go_sem]
  exact ⟨trivial,trivial,trivial,trivial,0,rfl,by rw [i0];rfl,Nat.zero_le _,rfl⟩
 ·rintro ex ⟨t,g,d⟩ ⟨rfl,rfl,e1,g3⟩
  dsimp only at e1 g3
  subst e1
  simp -dsimp (disch:=(repeat first | rw [nxn] | rw [nxp]);try omega) only [go_sem,g3]
  exact ⟨by first | trivial | rfl,by first | trivial | rfl⟩
theorem countC (hS:Tb S) {K:Nat→Nat} {h:AH} {v:AV} {t:Tp} (hv:TpA K h v t):RnC Tryz.prog S 88 [v] h fun r h'=>r=.int .i64 (t.size:Nat)∧h'=h:=by
 refine RnC.enter' Tryz.f88 _ 9 [.tmp 2] (hS.nt _ _ _ (by simp)) bd88 Tryz.func88 rfl rfl rfl ?_
 cases t with
 | nil =>
  cases hv
  simp -dsimp (disch:=(repeat first | rw [nxn] | rw [nxp]);try omega) only [go_sem,eqNn]
  exact ⟨rfl,trivial⟩
 | nd k x l r =>
  obtain ⟨id,lv,rv,rfl,h2,h3,h4,h5,h6⟩:=hv
  simp -dsimp (disch:=(repeat first | rw [nxn] | rw [nxp]);try omega) only [go_sem,eqNp,h2]
  exact ⟨rfl,trivial⟩
theorem withC (hS:Tb S) {K:Nat→Nat} {h:AH} {v lv rv:AV} {k x:List Nat} {l0 r0 l r:Tp} (hv:TpA K h v (.nd k x l0 r0)) (hl:TpA K h lv l) (hr:TpA K h rv r) (hsz:l.size+r.size≤1099511627776) (top:∀j,h.nx≤j→K j=0):RnC Tryz.prog S 143 [v,lv,rv] h fun w h'=>TpA K h' w (.nd k x l r)∧Fr h h':=by
 refine RnC.enter' Tryz.f143 _ 22 [.tmp 6] (hS.nt _ _ _ (by simp)) bd143 Tryz.func143 rfl rfl rfl ?_
 obtain ⟨id,lv0,rv0,rfl,h2,h3,h4,h5,h6⟩:=hv
 have ol:=hl.one.1
 have or_:=hr.one.1
 have o0:=h5.one.1
 have o1:=h6.one.1
 have om0:=o0
 have om1:=o1
 unfold oneA at om0 om1
 simp -dsimp (disch:=(repeat first | rw [nxn] | rw [nxp]);try omega) only [go_sem,h2,ol,or_,o0,o1,om0,om1]
 generalize hg:((h.new (.cells [.str [],.str [],.int .u32 0,.int .i64 0,.nilptr,.nilptr] true false)).put h.nx (.cells [.str k,.str x,.int .u32 (iw (rankA k)),.int .i64 ((l0.size+r0.size+1:Nat):Int),lv0,rv0] true false))=g
 have ng:g.nx=h.nx+1:=by rw [←hg];rfl
 have fg:Fr h g:=by rw [←hg];exact (Fr.new _ _).put _ (Nat.le_refl _)
 have cg:g.get h.nx=some (.cells [.str k,.str x,.int .u32 (iw (rankA k)),.int .i64 ((l0.size+r0.size+1:Nat):Int),lv0,rv0] true false):=by rw [←hg];exact AH.get_put_eq rfl
 refine callK_of (countC hS (hl.fr fg)) ?_
 rintro r1 g1 ⟨rfl,rfl⟩
 try simp -dsimp (disch:=(repeat first | rw [nxn] | rw [nxp]);try omega) only [go_sem,ol,or_]
 refine callK_of (countC hS (hr.fr fg)) ?_
 rintro r2 g2 ⟨rfl,rfl⟩
 have fin:∀gg:AH,gg.nx=g2.nx→(∀j,j≠h.nx→gg.get j=g2.get j)→gg.get h.nx=some (.cells [.str k,.str x,.int .u32 (iw (rankA k)),.int .i64 ((l.size+r.size+1:Nat):Int),lv,rv] true false)→TpA K gg (.ptr h.nx 0) (.nd k x l r)∧Fr h gg:=fun gg hn ho hc=>by
  have fgg:Fr h gg:=⟨by have:=fg.nx;omega,fun j hj=>(ho j (by omega)).trans (fg.get j hj)⟩
  exact ⟨⟨h.nx,lv,rv,rfl,hc,by omega,top _ (Nat.le_refl _),hl.fr fgg,hr.fr fgg⟩,fgg⟩
 have es:(((l.size:Nat):Int)+((r.size:Nat):Int))+1=((l.size+r.size+1:Nat):Int):=by omega
 rcases hl.shape with rfl | ⟨il,rfl⟩ <;> rcases hr.shape with rfl | ⟨ir,rfl⟩
 all_goals
  simp -dsimp (disch:=(repeat first | rw [nxn] | rw [nxp]);try omega) only [go_sem,cg,es]
  exact fin _ (by rfl) (by intro j hj;exact (AH.get_put_ne hj).trans ((AH.get_put_ne hj).trans (AH.get_put_ne hj))) (by exact AH.get_put_eq rfl)
end
section
variable {S : Sums}
theorem svi (k:IntKind) (n:Int):sameAV 20 (.int k n) (.int k n)=true:=by simp [sameAV]
theorem svb (b:Bool):sameAV 20 (.bool b) (.bool b)=true:=by simp [sameAV]
theorem gtW (h:AH) (x y:W32):binA Tryz.prog h .gtr 81 (.int .u32 (iw x)) (.int .u32 (iw y))=some (.bool (decide (y.toNat<x.toNat))):=by
 rw [binA_gtr]
 have:(iw x>iw y)=(y.toNat<x.toNat):=by rw [iw_def,iw_def];exact propext ⟨fun hh=>by omega,fun hh=>by omega⟩
 simp only [this]
theorem eqW (h:AH) (x y:W32):binA Tryz.prog h .eql 81 (.int .u32 (iw x)) (.int .u32 (iw y))=some (.bool (decide (x.toNat=y.toNat))):=by
 rw [binA_eql]
 have:(iw x=iw y)=(x.toNat=y.toNat):=by rw [iw_def,iw_def];exact propext ⟨fun hh=>by omega,fun hh=>by omega⟩
 simp only [this]
theorem aboveC (hS:Tb S) {K:Nat→Nat} {h:AH} {a b:AV} {k x k2 x2:List Nat} {l r l2 r2:Tp} (ha:TpA K h a (.nd k x l r)) (hb:TpA K h b (.nd k2 x2 l2 r2)):RnC Tryz.prog S 144 [a,b] h fun w h'=>w=.bool (aboveA k k2)∧Fr h h':=by
 refine RnC.enter' Tryz.f144 _ 36 [.tmp 4] (hS.nt _ _ _ (by simp)) bd144 Tryz.func144 rfl rfl rfl ?_
 obtain ⟨id,lv,rv,rfl,h2,h3,h4,h5,h6⟩:=ha
 obtain ⟨id2,lv2,rv2,rfl,h22,h32,h42,h52,h62⟩:=hb
 simp -dsimp only [go_sem]
 refine syDraw.keepN 0 (fun _=>True) (by kernel_rfl) (by kernel_rfl) rfl ?_
 have f:Fr h { tr:=h.tr,nx:=h.nx+32 }:=(Fr.refl h).more _ (by omega)
 unfold aboveA
 cases c1:decide ((rankA k2).toNat<(rankA k).toNat)
 ·cases c2:decide ((rankA k).toNat=(rankA k2).toNat)
  ·simp -dsimp only [go_sem,h2,h22,gtW,eqW,ltSt,c1,c2]
   exact ⟨by first | trivial | rfl,f⟩
  ·simp -dsimp only [go_sem,h2,h22,gtW,eqW,ltSt,c1,c2]
   exact ⟨by simp,f⟩
 ·simp -dsimp only [go_sem,h2,h22,gtW,eqW,ltSt,c1]
  exact ⟨by first | trivial | rfl | simp,f⟩
theorem cutT_size (key:List Nat):∀t:Tp,(cutT key t).1.size+(cutT key t).2.size=t.size
 | .nil=>rfl
 | .nd k v l r=>by
  unfold cutT
  split
  ·have:=cutT_size key r
   show (l.size+(cutT key r).1.size+1)+(cutT key r).2.size=l.size+r.size+1
   omega
  ·have:=cutT_size key l
   show (cutT key l).1.size+((cutT key l).2.size+r.size+1)=l.size+r.size+1
   omega
theorem joinT_size (a b:Tp):(joinT a b).size=a.size+b.size:=by
 rw [Tp.size_eq,ino_join,List.length_append,←Tp.size_eq,←Tp.size_eq]
theorem cutC (hS:Tb S) {K:Nat→Nat} (key:List Nat):∀(t:Tp) {h:AH} {v:AV},TpA K h v t→t.size≤1099511627776→(∀j,h.nx≤j→K j=0)→RnC Tryz.prog S 121 [v,.str key] h fun w h'=>(∃a b,w=.tup [a,b]∧TpA K h' a (cutT key t).1∧TpA K h' b (cutT key t).2)∧Fr h h'
 | .nil,h,v,hv,hsz,top=>by
  refine RnC.enter' Tryz.f121 _ 52 [.tmp 4,.tmp 5] (hS.nt _ _ _ (by simp)) bd121 Tryz.func121 rfl rfl rfl ?_
  cases hv
  simp -dsimp only [go_sem,eqNn]
  exact ⟨⟨.nilptr,.nilptr,rfl,rfl,rfl⟩,Fr.refl _⟩
 | .nd k x l r,h,v,hv,hsz,top=>by
  refine RnC.enter' Tryz.f121 _ 52 [.tmp 4,.tmp 5] (hS.nt _ _ _ (by simp)) bd121 Tryz.func121 rfl rfl rfl ?_
  have hv0:=hv
  obtain ⟨id,lv,rv,rfl,h2,h3,h4,h5,h6⟩:=hv
  have hsz':l.size+r.size+1≤1099511627776:=hsz
  have ol:=h5.one.1
  have or_:=h6.one.1
  unfold cutT
  cases hk:lessA k key
  ·simp -dsimp only [go_sem,eqNp,h2,ltSt,hk,ol,or_]
   refine callK_of (cutC hS key l h5 (by omega) top) ?_
   rintro w g ⟨⟨a,b,rfl,ha,hb⟩,f⟩
   have oa:=ha.one.1
   have ob:=hb.one.1
   have h2g:=(f.get _ h3).trans h2
   simp -dsimp only [go_sem,h2g,oa,ob,ol,or_]
   have hs:=cutT_size key l
   refine callK_of (withC hS (hv0.fr f) hb (h6.fr f) (by omega) fun j hj=>top j (Nat.le_trans f.nx hj)) ?_
   rintro w2 g2 ⟨hw,f2⟩
   have ow:=hw.one.1
   try simp -dsimp only [go_sem,oa,ow]
   exact ⟨⟨a,w2,rfl,ha.fr f2,hw⟩,f.trans f2⟩
  ·simp -dsimp only [go_sem,eqNp,h2,ltSt,hk,ol,or_]
   refine callK_of (cutC hS key r h6 (by omega) top) ?_
   rintro w g ⟨⟨a,b,rfl,ha,hb⟩,f⟩
   have oa:=ha.one.1
   have ob:=hb.one.1
   have h2g:=(f.get _ h3).trans h2
   simp -dsimp only [go_sem,h2g,oa,ob,ol,or_]
   have hs:=cutT_size key r
   refine callK_of (withC hS (hv0.fr f) (h5.fr f) ha (by omega) fun j hj=>top j (Nat.le_trans f.nx hj)) ?_
   rintro w2 g2 ⟨hw,f2⟩
   have ow:=hw.one.1
   try simp -dsimp only [go_sem,ob,ow]
   exact ⟨⟨w2,b,rfl,hw,hb.fr f2⟩,f.trans f2⟩
theorem joinC (hS:Tb S) {K:Nat→Nat}:∀(n:Nat) (a b:Tp) {h:AH} {va vb:AV},a.size+b.size≤n→n≤1099511627776→TpA K h va a→TpA K h vb b→(∀j,h.nx≤j→K j=0)→RnC Tryz.prog S 122 [va,vb] h fun w h'=>TpA K h' w (joinT a b)∧Fr h h'
 | n,.nil,b,h,va,vb,hn,hn2,ha,hb,top=>by
  refine RnC.enter' Tryz.f122 _ 41 [.tmp 4] (hS.nt _ _ _ (by simp)) bd122 Tryz.func122 rfl rfl rfl ?_
  cases ha
  have ob:=hb.one.1
  simp -dsimp only [go_sem,eqNn,ob]
  exact ⟨hb,Fr.refl _⟩
 | n,.nd k x l r,.nil,h,va,vb,hn,hn2,ha,hb,top=>by
  refine RnC.enter' Tryz.f122 _ 41 [.tmp 4] (hS.nt _ _ _ (by simp)) bd122 Tryz.func122 rfl rfl rfl ?_
  cases hb
  have ha0:=ha
  obtain ⟨id,lv,rv,rfl,h2,h3,h4,h5,h6⟩:=ha
  simp -dsimp only [go_sem,eqNn,eqNp]
  exact ⟨ha0,Fr.refl _⟩
 | 0,.nd k x l r,.nd k2 x2 l2 r2,h,va,vb,hn,hn2,ha,hb,top=>by
  exfalso
  have:(Tp.nd k x l r).size=l.size+r.size+1:=rfl
  omega
 | n+1,.nd k x l r,.nd k2 x2 l2 r2,h,va,vb,hn,hn2,ha,hb,top=>by
  refine RnC.enter' Tryz.f122 _ 41 [.tmp 4] (hS.nt _ _ _ (by simp)) bd122 Tryz.func122 rfl rfl rfl ?_
  have ha0:=ha
  have hb0:=hb
  obtain ⟨id,lv,rv,rfl,h2,h3,h4,h5,h6⟩:=ha
  obtain ⟨id2,lv2,rv2,rfl,h22,h32,h42,h52,h62⟩:=hb
  have e1:(Tp.nd k x l r).size=l.size+r.size+1:=rfl
  have e2:(Tp.nd k2 x2 l2 r2).size=l2.size+r2.size+1:=rfl
  rw [joinT_nd]
  simp -dsimp only [go_sem,eqNp]
  refine callK_of (aboveC hS ha0 hb0) ?_
  rintro w g ⟨rfl,f⟩
  have h2g:=(f.get _ h3).trans h2
  have h22g:=(f.get _ h32).trans h22
  have topg:∀j,g.nx≤j→K j=0:=fun j hj=>top j (Nat.le_trans f.nx hj)
  have s5:=h5.one.2
  have s6:=h6.one.2
  have o5:=h5.one.1
  have o6:=h6.one.1
  have s52:=h52.one.2
  have s62:=h62.one.2
  have o52:=h52.one.1
  have o62:=h62.one.1
  have hig:id<g.nx:=Nat.lt_of_lt_of_le h3 f.nx
  have hig2:id2<g.nx:=Nat.lt_of_lt_of_le h32 f.nx
  cases hab:aboveA k k2
  ·rw [if_neg (by decide)]
   simp -dsimp only [go_sem]
   have fx:Fr g { tr:=g.tr,nx:=g.nx+13 }:=(Fr.refl g).more _ (by omega)
   refine syDraw.keep (fun j=>j<g.nx) (by kernel_rfl) (by kernel_rfl) ?_
   simp -dsimp only [go_sem,h22g,s52,o52,hig2,true_and,implies_true,svi,svb]
   refine callK_of (joinC hS n (.nd k x l r) l2 (by omega) (by omega) ((ha0.fr f).fr fx) ((h52.fr f).fr fx) fun j hj=>topg j (by have:g.nx+13≤j:=hj;omega)) ?_
   rintro w2 g2 ⟨hw,f2⟩
   have fg2:=fx.trans f2
   have h22g2:=(fg2.get _ hig2).trans h22g
   refine ⟨fun j hj=>f2.get j (by show j<g.nx+13;omega),?_⟩
   have ow:=hw.one.1
   have js:=joinT_size (.nd k x l r) l2
   simp -dsimp only [go_sem,h22g2,s62,o62,ow,hig2,true_and,implies_true,svi,svb]
   refine callK_of (withC hS ((hb0.fr f).fr fg2) hw ((h62.fr f).fr fg2) (by omega) fun j hj=>topg j (Nat.le_trans fg2.nx hj)) ?_
   rintro w3 g3 ⟨hw3,f3⟩
   have ow3:=hw3.one.1
   refine ⟨fun j hj=>f3.get j (Nat.lt_of_lt_of_le hj fg2.nx),?_⟩
   try simp -dsimp only [go_sem,ow3]
   exact ⟨hw3,(f.trans fg2).trans f3⟩
  ·rw [if_pos rfl]
   simp -dsimp only [go_sem]
   have fx:Fr g { tr:=g.tr,nx:=g.nx+13 }:=(Fr.refl g).more _ (by omega)
   refine syDraw.keep (fun j=>j<g.nx) (by kernel_rfl) (by kernel_rfl) ?_
   simp -dsimp only [go_sem,h2g,s5,s6,o5,o6,hig,true_and,implies_true,svi,svb]
   refine callK_of (joinC hS n r (.nd k2 x2 l2 r2) (by omega) (by omega) ((h6.fr f).fr fx) ((hb0.fr f).fr fx) fun j hj=>topg j (by have:g.nx+13≤j:=hj;omega)) ?_
   rintro w2 g2 ⟨hw,f2⟩
   have fg2:=fx.trans f2
   refine ⟨fun j hj=>f2.get j (by show j<g.nx+13;omega),?_⟩
   have ow:=hw.one.1
   have js:=joinT_size r (.nd k2 x2 l2 r2)
   try simp -dsimp only [go_sem,o5,ow,true_and,implies_true,svi,svb]
   refine callK_of (withC hS ((ha0.fr f).fr fg2) ((h5.fr f).fr fg2) hw (by omega) fun j hj=>topg j (Nat.le_trans fg2.nx hj)) ?_
   rintro w3 g3 ⟨hw3,f3⟩
   have ow3:=hw3.one.1
   refine ⟨fun j hj=>f3.get j (Nat.lt_of_lt_of_le hj fg2.nx),?_⟩
   try simp -dsimp only [go_sem,ow3]
   exact ⟨hw3,(f.trans fg2).trans f3⟩
end
theorem TpA.keep {K:Nat→Nat} {h h':AH} (hn:h.nx≤h'.nx) (hk:∀j,j<h.nx→K j=0→h'.get j=h.get j):∀ {t:Tp} {v:AV},TpA K h v t→TpA K h' v t
 | .nil,v,hv=>hv
 | .nd k x l r,v,⟨id,lv,rv,h1,h2,h3,h4,h5,h6⟩=>⟨id,lv,rv,h1,(hk id h3 h4).trans h2,Nat.lt_of_lt_of_le h3 hn,h4,TpA.keep hn hk h5,TpA.keep hn hk h6⟩
theorem TpA.col {K K':Nat→Nat} {h:AH} (hk:∀j,j<h.nx→K j=0→K' j=0):∀ {t:Tp} {v:AV},TpA K h v t→TpA K' h v t
 | .nil,v,hv=>hv
 | .nd k x l r,v,⟨id,lv,rv,h1,h2,h3,h4,h5,h6⟩=>⟨id,lv,rv,h1,h2,h3,hk id h3 h4,TpA.col hk h5,TpA.col hk h6⟩
def K2 (K:Nat→Nat) (n:Nat):Nat→Nat:=fun j=>if j=n∨j=n+1 then 9 else K j
theorem K2.ne {K:Nat→Nat} {n j:Nat} (h:j<n):K2 K n j=K j:=if_neg (by omega)
theorem K2.zero {K:Nat→Nat} {n j:Nat} (h:K2 K n j=0):K j=0∧j≠n∧j≠n+1:=by
 unfold K2 at h
 split at h
 ·cases h
 ·rename_i hh;exact ⟨h,fun h2=>hh (.inl h2),fun h2=>hh (.inr h2)⟩
theorem bldTb {v:AV} (hv:v=.nilptr∨∃id,v=.ptr id 0):evBuild Tryz.prog 36 [(0,v)]=some (.agg [v]):=by
 rcases hv with rfl | ⟨id,rfl⟩ <;> kernel_rfl
theorem bldNd (k x:List Nat) (w:W32):evBuild Tryz.prog 83 [(0,.str k),(1,.str x),(2,.int .u32 (iw w)),(3,.int .i64 1)]=some (.agg [.str k,.str x,.int .u32 (iw w),.int .i64 1,.nilptr,.nilptr]):=by kernel_rfl
theorem add0 (h:AH) (k:List Nat) (hk:k.length≤1000000):binA Tryz.prog h .add 9 (.str k) (.str [0])=some (.str (k++[0])):=by
 have:¬(((k.length+1:Nat):Int)>IntKind.i64.max):=by
  have hm:IntKind.i64.max=9223372036854775807:=rfl
  rw [hm];omega
 simp only [binA,strA,List.length_singleton,if_neg this]
theorem b00:bytesOf { data:=#[0] }=[0]:=rfl
theorem b0e:bytesOf { data:=#[] }=[]:=rfl
section
variable {S : Sums}
theorem putC (hS:Tb S) {K:Nat→Nat} {h:AH} {v:AV} {t:Tp} (k x:List Nat) (hv:TpA K h v t) (hk:k.length≤1000000) (hsz:t.size≤1000000) (top:∀j,h.nx≤j→K j=0):RnC Tryz.prog S 73 [.agg [v],.str k,.str x] h fun r h'=>(∃a,r=.agg [a]∧TpA K h' a (putT2 t k x))∧Fr h h':=by
 refine RnC.enter' Tryz.f73 _ 36 [.cell 6 36] (hS.nt _ _ _ (by simp)) bd73 Tryz.func73 rfl rfl rfl ?_
 have ov:=hv.one.1
 have om:=ov
 unfold oneA at om
 have ha1:∀(o1 o2:AO),((h.new o1).new o2).get h.nx=some o1:=fun o1 o2=>(AH.get_new_ne (by simp)).trans (AH.get_new_eq rfl)
 simp -dsimp only [go_sem,ov,om,ha1]
 generalize hg:((h.new (.cells [v] true false)).new (.cells [.nilptr] true false))=g
 have ng:g.nx=h.nx+2:=by rw [←hg];rfl
 have fg:Fr h g:=by rw [←hg];exact (Fr.new _ _).news _
 have c1:g.get (h.nx+1)=some (.cells [.nilptr] true false):=by rw [←hg];exact AH.get_new_eq rfl
 have hv1:TpA (K2 K h.nx) g v t:=(hv.col fun j hj hk=>(K2.ne hj).trans hk).fr fg
 have topg:∀j,g.nx≤j→K2 K h.nx j=0:=fun j hj=>(if_neg (by omega)).trans (top j (by omega))
 refine callK_of (cutC hS k t hv1 (by omega) topg) ?_
 rintro w g2 ⟨⟨a,b,rfl,ha,hb⟩,f2⟩
 have cs1:=cutT_size k t
 have ob:=hb.one.1
 have oa:=ha.one.1
 simp -dsimp only [go_sem,oa,ob,b00,add0,hk]
 refine callK_of (cutC hS (k++[0]) (cutT k t).2 hb (by omega) fun j hj=>topg j (Nat.le_trans f2.nx hj)) ?_
 rintro w g3 ⟨⟨a3,b3,rfl,ha3,hb3⟩,f3⟩
 have cs2:=cutT_size (k++[0]) (cutT k t).2
 have ob3:=hb3.one.1
 have oa3:=ha3.one.1
 simp -dsimp only [go_sem,oa,oa3,ob3]
 refine callK_of (rankC hS k hk) ?_
 rintro w g4 ⟨rfl,rfl⟩
 have bN:=bldNd k x (rankA k)
 simp -dsimp only [go_sem,bN,oa,ob3]
 have f4:Fr g4 (g4.new (.cells [.str k,.str x,.int .u32 (iw (rankA k)),.int .i64 1,.nilptr,.nilptr] true false)):=Fr.new _ _
 have hnd:TpA (K2 K h.nx) (g4.new (.cells [.str k,.str x,.int .u32 (iw (rankA k)),.int .i64 1,.nilptr,.nilptr] true false)) (.ptr g4.nx 0) (.nd k x .nil .nil):=⟨g4.nx,.nilptr,.nilptr,rfl,AH.get_new_eq rfl,Nat.lt_succ_self _,topg _ (by have:=f2.nx;have:=f3.nx;omega),rfl,rfl⟩
 refine callK_of (joinC hS 1000001 (cutT k t).1 (.nd k x .nil .nil) (by have:(Tp.nd k x .nil .nil).size=1:=rfl;omega) (by decide) ((ha.fr f3).fr f4) hnd fun j hj=>topg j (by have:=f2.nx;have:=f3.nx;have:=f4.nx;omega)) ?_
 rintro w5 g5 ⟨hw5,f5⟩
 have ow5:=hw5.one.1
 have js:=joinT_size (cutT k t).1 (.nd k x .nil .nil)
 try simp -dsimp only [go_sem,ow5,ob3]
 refine callK_of (joinC hS 1000001 _ _ (by have:(Tp.nd k x .nil .nil).size=1:=rfl;omega) (by decide) hw5 ((hb3.fr f4).fr f5) fun j hj=>topg j (by have:=f2.nx;have:=f3.nx;have:=f4.nx;have:=f5.nx;omega)) ?_
 rintro w6 g6 ⟨hw6,f6⟩
 have f26:=((f2.trans f3).trans f4).trans (f5.trans f6)
 have c6:g6.get (h.nx+1)=_:=(f26.get _ (by omega)).trans c1
 have bT:=bldTb hw6.shape
 have ow6:=hw6.one.1
 have fin:∀gg:AH,gg.nx=g6.nx→(∀j,j≠h.nx+1→gg.get j=g6.get j)→TpA K gg w6 (putT2 t k x)∧Fr h gg:=fun gg hn ho=>by
  refine ⟨(hw6.keep (by omega) fun j hj hk=>ho j (K2.zero hk).2.2).col fun j hj hk=>(K2.zero hk).1,⟨by have:=fg.nx;have:=f26.nx;omega,fun j hj=>(ho j (by omega)).trans ((f26.get j (by omega)).trans (fg.get j hj))⟩⟩
 rcases hw6.shape with rfl | ⟨iw6,rfl⟩
 all_goals
  simp -dsimp only [go_sem,bT,c6]
  exact ⟨⟨_,rfl,(fin _ (by rfl) (by intro j hj;exact AH.get_put_ne hj)).1⟩,(fin _ (by rfl) (by intro j hj;exact AH.get_put_ne hj)).2⟩
end
open Go.Abs.Rec
section
variable {S : Sums}
theorem getC (hS:Tb S) {K:Nat→Nat} {h:AH} {v:AV} {t:Tp} (key:List Nat) (hv:TpA K h v t):RnC Tryz.prog S 15 [.agg [v],.str key] h fun r h'=>r=.tup [.str ((getT2 key t).getD []),.bool (getT2 key t).isSome]∧Fr h h':=by
 refine RnC.enter' Tryz.f15 _ 37 [.tmp 4,.tmp 5] (hS.nt _ _ _ (by simp)) bd15 Tryz.func15 rfl rfl rfl ?_
 have ov:=hv.one.1
 have om:=ov
 unfold oneA at om
 have f1:Fr h (h.new (.cells [v] true false)):=Fr.new _ _
 simp -dsimp only [go_sem,ov,om,b0e]
 refine loopK_of (RnL.rounds (Q:=fun ex u=>u.d=[]∧u.h=h.new (.cells [v] true false)∧(ex=.exit 0∧getT2 key t=none∨ex=.ret∧∃x,getT2 key t=some x∧u.t.get 4=some (.str x)∧u.t.get 5=some (.bool true)))
  (fun m u=>u.d=[]∧u.h=h.new (.cells [v] true false)∧u.t.get 1=some (.str key)∧∃(w:AV) (s:Tp),u.t.get 6=some w∧TpA K u.h w s∧getT2 key t=getT2 key s∧m=s.size) ?_ t.size ?_) ?_
 ·rintro m ⟨tt,g,d⟩ ⟨e2,e1,g1,w,s,g6,hw,hgs,rfl⟩
  dsimp only at e1 e2 g1 g6 hw
  subst e1 e2
  cases s with
  | nil =>
   cases hw
   simp -dsimp only [go_sem,neNn,g1,g6]
   exact ⟨trivial,trivial,.inl ⟨trivial,hgs⟩⟩
  | nd k x l r =>
   obtain ⟨id,lv,rv,rfl,h2,h3,h4,h5,h6⟩:=hw
   have ol:=h5.one.1
   have or_:=h6.one.1
   have hge:getT2 key (.nd k x l r)=if key=k then some x else if lessA key k=true then getT2 key l else getT2 key r:=rfl
   rw [hge] at hgs
   have hsz:(Tp.nd k x l r).size=l.size+r.size+1:=rfl
   by_cases hk:key=k
   ·have hkd:decide (key=k)=true:=by simpa using hk
    rw [if_pos hk] at hgs
    simp -dsimp only [go_sem,neNp,h2,eqSt,hkd,g1,g6]
    exact ⟨trivial,trivial,.inr ⟨trivial,x,hgs,rfl,trivial⟩⟩
   ·have hkd:decide (key=k)=false:=by simpa using hk
    rw [if_neg hk] at hgs
    cases hlt:lessA key k
    ·rw [hlt,if_neg (by decide)] at hgs
     simp -dsimp only [go_sem,neNp,h2,eqSt,ltSt,hkd,hlt,ol,or_,g1,g6]
     exact ⟨r.size,by omega,trivial,trivial,trivial,rv,r,rfl,h6,hgs,rfl⟩
    ·rw [hlt,if_pos rfl] at hgs
     simp -dsimp only [go_sem,neNp,h2,eqSt,ltSt,hkd,hlt,ol,or_,g1,g6]
     exact ⟨l.size,by omega,trivial,trivial,trivial,lv,l,rfl,h5,hgs,rfl⟩
 ·simp -dsimp only [go_sem]
  exact ⟨trivial,trivial,trivial,v,t,rfl,hv.fr f1,rfl,rfl⟩
 ·rintro ex ⟨tt,g,d⟩ ⟨rfl,e1,⟨rfl,hh⟩ | ⟨rfl,x,hh,g4,g5⟩⟩
  ·dsimp only at e1
   subst e1
   simp -dsimp only [go_sem,b0e]
   rw [hh]
   exact ⟨rfl,f1⟩
  ·dsimp only at e1 g4 g5
   subst e1
   simp -dsimp only [go_sem,g4,g5]
   rw [hh]
   exact ⟨rfl,f1⟩
theorem dropC (hS:Tb S) {K:Nat→Nat} {h:AH} {v:AV} {t:Tp} (k:List Nat) (hv:TpA K h v t) (hr:riseP (ino t)) (hk:k.length≤1000000) (hsz:t.size≤1000000) (top:∀j,h.nx≤j→K j=0):RnC Tryz.prog S 72 [.agg [v],.str k] h fun r h'=>(∃a,r=.agg [a]∧TpA K h' a (dropT2 t k))∧Fr h h':=by
 refine RnC.enter' Tryz.f72 _ 36 [.cell 4 36] (hS.nt _ _ _ (by simp)) bd72 Tryz.func72 rfl rfl rfl ?_
 have ov:=hv.one.1
 have om:=ov
 unfold oneA at om
 have ha1:∀(o1 o2:AO),((h.new o1).new o2).get h.nx=some o1:=fun o1 o2=>(AH.get_new_ne (by simp)).trans (AH.get_new_eq rfl)
 simp -dsimp only [go_sem,ov,om,ha1]
 generalize hg:((h.new (.cells [v] true false)).new (.cells [.nilptr] true false))=g
 have ng:g.nx=h.nx+2:=by rw [←hg];rfl
 have fg:Fr h g:=by rw [←hg];exact (Fr.new _ _).news _
 have c0:g.get h.nx=some (.cells [v] true false):=by rw [←hg];exact ha1 _ _
 have c1:g.get (h.nx+1)=some (.cells [.nilptr] true false):=by rw [←hg];exact AH.get_new_eq rfl
 have hv1:TpA (K2 K h.nx) g v t:=(hv.col fun j hj hk=>(K2.ne hj).trans hk).fr fg
 have topg:∀j,g.nx≤j→K2 K h.nx j=0:=fun j hj=>(if_neg (by omega)).trans (top j (by omega))
 refine callK_of (getC hS k hv1) ?_
 rintro w gg ⟨rfl,fgg⟩
 have hany:=getT2_any k hr
 have c0g:=(fgg.get _ (by omega)).trans c0
 have c1g:=(fgg.get _ (by omega)).trans c1
 have hvg:=hv1.fr fgg
 have topgg:∀j,gg.nx≤j→K2 K h.nx j=0:=fun j hj=>topg j (Nat.le_trans fgg.nx hj)
 have ngg:=fgg.nx
 have fin:∀(g6 hh:AH) (a:AV) (t':Tp),Fr gg g6→TpA (K2 K h.nx) g6 a t'→hh.nx=g6.nx→(∀j,j≠h.nx+1→hh.get j=g6.get j)→TpA K hh a t'∧Fr h hh:=fun g6 hh a t' f6 hw6 hn ho=>by
  refine ⟨(hw6.keep (by omega) fun j hj hk=>ho j (K2.zero hk).2.2).col fun j hj hk=>(K2.zero hk).1,⟨by have:=fg.nx;have:=f6.nx;omega,fun j hj=>(ho j (by omega)).trans ((f6.get j (by omega)).trans ((fgg.get j (by omega)).trans (fg.get j hj)))⟩⟩
 unfold dropT2
 cases hs:(getT2 k t).isSome
 ·rw [hs] at hany
  rw [if_neg (by rw [←hany];decide)]
  rcases hv.shape with rfl | ⟨iv,rfl⟩
  all_goals
   simp -dsimp only [go_sem,c0g,c1g]
   exact ⟨⟨_,rfl,(fin gg _ _ _ (Fr.refl _) hvg (by rfl) (by intro j hj;exact AH.get_put_ne hj)).1⟩,(fin gg _ _ _ (Fr.refl _) hvg (by rfl) (by intro j hj;exact AH.get_put_ne hj)).2⟩
 ·rw [hs] at hany
  rw [if_pos hany.symm]
  simp -dsimp only [go_sem,c0g,ov]
  refine callK_of (cutC hS k t hvg (by omega) topgg) ?_
  rintro w g2 ⟨⟨a,b,rfl,ha,hb⟩,f2⟩
  have cs1:=cutT_size k t
  have ob:=hb.one.1
  have oa:=ha.one.1
  simp -dsimp only [go_sem,oa,ob,b00,add0,hk]
  refine callK_of (cutC hS (k++[0]) (cutT k t).2 hb (by omega) fun j hj=>topgg j (Nat.le_trans f2.nx hj)) ?_
  rintro w g3 ⟨⟨a3,b3,rfl,ha3,hb3⟩,f3⟩
  have cs2:=cutT_size (k++[0]) (cutT k t).2
  have ob3:=hb3.one.1
  have oa3:=ha3.one.1
  simp -dsimp only [go_sem,oa,oa3,ob3]
  refine callK_of (joinC hS 1000001 (cutT k t).1 _ (by omega) (by decide) (ha.fr f3) hb3 fun j hj=>topgg j (by have:=f2.nx;have:=f3.nx;omega)) ?_
  rintro w6 g6 ⟨hw6,f6⟩
  have f26:=(f2.trans f3).trans f6
  have c6:g6.get (h.nx+1)=_:=(f26.get _ (by omega)).trans c1g
  have bT:=bldTb hw6.shape
  have ow6:=hw6.one.1
  rcases hw6.shape with rfl | ⟨iw6,rfl⟩
  all_goals
   simp -dsimp only [go_sem,bT,c6]
   exact ⟨⟨_,rfl,(fin g6 _ _ _ f26 hw6 (by rfl) (by intro j hj;exact AH.get_put_ne hj)).1⟩,(fin g6 _ _ _ f26 hw6 (by rfl) (by intro j hj;exact AH.get_put_ne hj)).2⟩
end
/-! ### Pairs in memory -/
def pc (p:Pr):List AV:=[.str p.1,.str p.2.1,.bool p.2.2]
def Ps (h:AH) (v:AV) (l:KL (List Nat×Bool)):Prop :=
 (v=.nilsl∧l=[])∨∃id off c cs o tx,v=.sl id off l.length 3 c∧h.get id=some (.cells cs o tx)∧id<h.nx∧(∀k,c=some k→l.length≤k)∧off+l.length*3≤cs.length∧(cs.drop off).take (l.length*3)=l.flatMap pc
theorem pc_len (l:KL (List Nat×Bool)):(l.flatMap pc).length=l.length*3:=by
 induction l with
 | nil=>rfl
 | cons p l ih =>
  rw [List.flatMap_cons,List.length_append,ih,List.length_cons]
  show 3+_=_
  omega
theorem pc_get:∀ {l:KL (List Nat×Bool)} {i:Nat} {p:Pr},l[i]? = some p→((l.flatMap pc).drop (i*3)).take 3=pc p
 | [],i,p,h=>by simp at h
 | q::l,0,p,h=>by
  cases h
  rfl
 | q::l,i+1,p,h=>by
  have ih:=pc_get (l:=l) (i:=i) (p:=p) (by simpa using h)
  have e:(i+1)*3=i*3+1+1+1:=by omega
  rw [e]
  exact ih
theorem Ps.fr {h h':AH} {v:AV} {l:KL (List Nat×Bool)} (hb:Ps h v l) (f:Fr h h'):Ps h' v l:=by
 rcases hb with h1 | ⟨id,off,c,cs,o,tx,h1,h2,h3,h4⟩
 ·exact .inl h1
 ·exact .inr ⟨id,off,c,cs,o,tx,h1,(f.get id h3).trans h2,Nat.lt_of_lt_of_le h3 f.nx,h4⟩
theorem Ps.ln {h:AH} {v:AV} {l:KL (List Nat×Bool)} (hb:Ps h v l):(∀g,evLen Tryz.prog g #[22] v=some (.int .i64 (l.length:Nat)))∧sameAV 20 v v=true∧oneA v=true:=by
 rcases hb with ⟨rfl,rfl⟩ | ⟨id,off,c,cs,o,tx,rfl,_⟩
 ·exact ⟨fun g=>by simp [evLen,Tryz.underlying22],rfl,rfl⟩
 ·exact ⟨fun g=>by simp [evLen,Tryz.underlying22],by simp [sameAV],rfl⟩
theorem Ps.at {h:AH} {v:AV} {l:KL (List Nat×Bool)} {i:Nat} {p:Pr} (hb:Ps h v l) (hi:l[i]? = some p):∃id off c cs o tx,v=.sl id off l.length 3 c∧h.get id=some (.cells cs o tx)∧id<h.nx∧off+i*3+3≤cs.length∧(cs.drop (off+i*3)).take 3=[.str p.1,.str p.2.1,.bool p.2.2]∧cs[off+i*3]? = some (.str p.1)∧cs[off+i*3+1]? = some (.str p.2.1)∧cs[off+i*3+2]? = some (.bool p.2.2):=by
 have hil:i<l.length:=(List.getElem?_eq_some_iff.1 hi).1
 rcases hb with ⟨_,rfl⟩ | ⟨id,off,c,cs,o,tx,h1,h2,h3,h4,h5,h6⟩
 ·simp at hi
 ·have hx:(cs.drop (off+i*3)).take 3=pc p:=by
   rw [←pc_get hi,←h6,List.drop_take,List.drop_drop,List.take_take]
   congr 1
   omega
  have g:∀j,j<3→cs[off+i*3+j]? = (pc p)[j]?:=fun j hj=>by
   rw [←hx,List.getElem?_take_of_lt hj,List.getElem?_drop]
  exact ⟨id,off,c,cs,o,tx,h1,h2,h3,by omega,hx,g 0 (by decide),g 1 (by decide),g 2 (by decide)⟩
section
variable {S : Sums}
theorem ofC (hS:Tb S) {K:Nat→Nat} {h:AH} {v:AV} {l:KL (List Nat×Bool)} (hv:Ps h v l) (hl:l.length≤100000) (hk:∀p∈l,p.1.length≤1000000) (top:∀j,h.nx≤j→K j=0):RnC Tryz.prog S 63 [v] h fun r h'=>(∃a t,r=.agg [a]∧TpA K h' a t∧ino t=ofP l∧Hp t)∧Fr h h':=by
 refine RnC.enter' Tryz.f63 _ 20 [.cell 2 36] (hS.nt _ _ _ (by simp)) bd63 Tryz.func63 rfl rfl rfl ?_
 obtain ⟨lv,sv,ov⟩:=hv.ln
 simp -dsimp (disch:=(repeat first | rw [nxn] | rw [nxp]);try omega) only [go_sem,lv,ov]
 generalize hg:((h.new (.cells [.nilptr] true false)).new (.cells [.nilptr] true false))=g
 have ng:g.nx=h.nx+2:=by rw [←hg];rfl
 have fg:Fr h g:=by rw [←hg];exact (Fr.new _ _).news _
 have c0:g.get h.nx=some (.cells [.nilptr] true false):=by rw [←hg];exact (AH.get_new_ne (by simp)).trans (AH.get_new_eq rfl)
 have c1:g.get (h.nx+1)=some (.cells [.nilptr] true false):=by rw [←hg];exact AH.get_new_eq rfl
 have hvg:=hv.fr fg
 have hrise:∀m:KL (List Nat×Bool),riseP (ofP m)∧(ofP m).length≤m.length:=fun m=>by
  have key:∀(m:KL (List Nat×Bool)) (L:KL (List Nat)),riseP L→riseP (m.foldl (fun L p=>putP L p.1 p.2.1) L)∧(m.foldl (fun L p=>putP L p.1 p.2.1) L).length≤L.length+m.length:=by
   intro m
   induction m with
   | nil=>intro L h;exact ⟨h,Nat.le_refl _⟩
   | cons p m ih =>
    intro L h
    obtain ⟨i1,i2⟩:=ih (putP L p.1 p.2.1) (riseP_put h _ _)
    have:=putP_len p.1 p.2.1 L
    exact ⟨i1,by simp only [List.foldl_cons,List.length_cons];omega⟩
  have:=key m [] trivial
  exact ⟨this.1,by simpa [ofP] using this.2⟩
 refine loopK_of (RnL.rounds (Q:=fun ex u=>ex=.exit 0∧u.d=[]∧u.t.get 2=some (.ptr h.nx 0)∧u.t.get 3=some (.ptr (h.nx+1) 0)∧g.nx≤u.h.nx∧(∀j,j<g.nx→j≠h.nx+1→u.h.get j=g.get j)∧∃a t,u.h.get (h.nx+1)=some (.cells [a] true false)∧TpA (K2 K h.nx) u.h a t∧ino t=ofP l∧Hp t)
  (fun m u=>u.d=[]∧u.t.get 2=some (.ptr h.nx 0)∧u.t.get 3=some (.ptr (h.nx+1) 0)∧u.t.get 6=some v∧u.t.get 7=some (.int .i64 (l.length:Nat))∧g.nx≤u.h.nx∧(∀j,j<g.nx→j≠h.nx+1→u.h.get j=g.get j)∧∃(i:Nat) (a:AV) (t:Tp),u.t.get 8=some (.int .i64 (i:Nat))∧u.h.get (h.nx+1)=some (.cells [a] true false)∧TpA (K2 K h.nx) u.h a t∧ino t=ofP (l.take i)∧Hp t∧i≤l.length∧m=l.length-i) ?_ l.length ?_) ?_
 ·rintro m ⟨tt,gx,d⟩ ⟨e2,g2,g3,g6,g7,hn,ho,i,a,t,g8,hc,ht,hit,hH,hi,rfl⟩
  dsimp only at e2 g2 g3 g6 g7 g8 hn ho hc ht
  subst e2
  by_cases c4:(i:Int)<(l.length:Nat)
  ·have hil:i<l.length:=by omega
   obtain ⟨p,hp⟩:∃p,l[i]? = some p:=⟨_,List.getElem?_eq_getElem hil⟩
   have hpk:=hk p (List.mem_iff_getElem?.2 ⟨i,hp⟩)
   obtain ⟨id,off,c,cs,o,tx,rfl,hgi,hidl,hle,hx,_⟩:=Ps.at hv hp
   have hgx:gx.get id=_:=(ho id (by omega) (by omega)).trans ((fg.get id hidl).trans hgi)
   have oa:=ht.one.1
   simp -dsimp (disch:=(repeat first | rw [nxn] | rw [nxp]);try omega) only [go_sem,c4,g2,g3,g6,g7,g8,hil,hgx,hle,hx,hc,oa]
   generalize hg4:((gx.new (.cells [.str [],.str [],.bool false] true false)).put gx.nx (.cells [.str p.1,.str p.2.1,.bool p.2.2] true false))=g4
   have n4:g4.nx=gx.nx+1:=by rw [←hg4];rfl
   have f4:Fr gx g4:=by rw [←hg4];exact (Fr.new _ _).put _ (Nat.le_refl _)
   have c4':g4.get gx.nx=some (.cells [.str p.1,.str p.2.1,.bool p.2.2] true false):=by rw [←hg4];exact AH.get_put_eq rfl
   have hc4:g4.get (h.nx+1)=_:=(f4.get _ (by omega)).trans hc
   have hrt:=hrise (l.take i)
   have hsz:t.size≤1000000:=by
    rw [Tp.size_eq,hit]
    have:=hrt.2
    rw [List.length_take] at this
    omega
   try simp -dsimp (disch:=(repeat first | rw [nxn] | rw [nxp]);try omega) only [go_sem,c4',hc4,oa]
   refine callK_of (putC hS p.1 p.2.1 (ht.fr f4) hpk hsz fun j hj=>(if_neg (by omega)).trans (top j (by omega))) ?_
   rintro w g5 ⟨⟨a5,rfl,ht5⟩,f5⟩
   have hc5:g5.get (h.nx+1)=_:=(f5.get _ (by omega)).trans hc4
   have n5:=f5.nx
   have hH5:Hp (putT2 t p.1 p.2.1):=hp_put (by rw [hit];exact hrt.1) hH _ _
   have hit5:ino (putT2 t p.1 p.2.1)=ofP (l.take (i+1)):=by
    rw [ino_put (by rw [hit];exact hrt.1),hit,List.take_add_one,hp]
    unfold ofP
    rw [List.foldl_append];rfl
   have fin:∀hh:AH,hh.nx=g5.nx→(∀j,j≠h.nx+1→hh.get j=g5.get j)→TpA (K2 K h.nx) hh a5 (putT2 t p.1 p.2.1)∧g.nx≤hh.nx∧∀j,j<g.nx→j≠h.nx+1→hh.get j=g.get j:=fun hh hn2 ho2 =>
    ⟨ht5.keep (by omega) fun j hj hk=>ho2 j (K2.zero hk).2.2,by omega,fun j hj hne=>(ho2 j hne).trans ((f5.get j (by omega)).trans ((f4.get j (by omega)).trans (ho j hj hne)))⟩
   rcases ht5.shape with rfl | ⟨iv,rfl⟩
   all_goals
    simp -dsimp (disch:=(repeat first | rw [nxn] | rw [nxp]);try omega) only [go_sem,hc5,c4,g2,g3,g6,g7,g8]
    refine ⟨l.length-(i+1),by omega,trivial,trivial,trivial,trivial,trivial,(by first | omega | (show g.nx≤g5.nx;omega)),(fin _ (by rfl) (by intro j hj;exact AH.get_put_ne hj)).2.2,i+1,_,_,rfl,rfl,(fin _ (by rfl) (by intro j hj;exact AH.get_put_ne hj)).1,hit5,hH5,by omega,rfl⟩
  ·have:i=l.length:=by omega
   subst this
   rw [List.take_length] at hit
   simp -dsimp only [go_sem,c4,g2,g3,g6,g7,g8]
   exact ⟨trivial,trivial,trivial,trivial,hn,ho,a,t,hc,ht,hit,hH⟩
 ·simp -dsimp only [go_sem]
  exact ⟨trivial,trivial,trivial,trivial,trivial,Nat.le_refl _,fun j _ _=>by first | rfl | trivial,0,.nilptr,.nil,rfl,c1,rfl,rfl,trivial,Nat.zero_le _,rfl⟩
 ·rintro ex ⟨tt,gx,d⟩ ⟨rfl,rfl,g2,g3,hn,ho,a,t,hc,ht,hit,hH⟩
  dsimp only at g2 g3 hn ho hc ht
  have oa:=ht.one.1
  have hc0:gx.get h.nx=_:=(ho _ (by omega) (by omega)).trans c0
  have fin:∀hh:AH,hh.nx=gx.nx→(∀j,j≠h.nx→hh.get j=gx.get j)→TpA K hh a t∧Fr h hh:=fun hh hn2 ho2 =>
   ⟨(ht.keep (by omega) fun j hj hk=>ho2 j (K2.zero hk).2.1).col fun j hj hk=>(K2.zero hk).1,⟨by omega,fun j hj=>(ho2 j (by omega)).trans ((ho j (by omega) (by omega)).trans (fg.get j hj))⟩⟩
  rcases ht.shape with rfl | ⟨iv,rfl⟩
  all_goals
   simp -dsimp only [go_sem,hc,hc0,g2,g3]
   exact ⟨⟨_,t,rfl,(fin _ (by rfl) (by intro j hj;exact AH.get_put_ne hj)).1,hit,hH⟩,(fin _ (by rfl) (by intro j hj;exact AH.get_put_ne hj)).2⟩
end
theorem done_rise:∀(m:KL (List Nat×Bool)) {L:KL (List Nat)},riseP L→riseP (doneP L m)∧(doneP L m).length≤L.length+m.length
 | [],L,h=>⟨h,Nat.le_refl _⟩
 | p::m,L,h=>by
  have e:doneP L (p::m)=doneP (if p.2.2=true then delP L p.1 else putP L p.1 p.2.1) m:=rfl
  rw [e]
  cases hg:p.2.2
  ·rw [if_neg (by decide)]
   obtain ⟨i1,i2⟩:=done_rise m (riseP_put h p.1 p.2.1)
   have:=putP_len p.1 p.2.1 L
   exact ⟨i1,by simp only [List.length_cons];omega⟩
  ·rw [if_pos rfl]
   obtain ⟨i1,i2⟩:=done_rise m (riseP_del h p.1)
   have:=delP_len p.1 L
   exact ⟨i1,by simp only [List.length_cons];omega⟩
theorem done_take {L:KL (List Nat)} {l:KL (List Nat×Bool)} {i:Nat} {p:Pr} (h:l[i]? = some p):doneP L (l.take (i+1))=if p.2.2=true then delP (doneP L (l.take i)) p.1 else putP (doneP L (l.take i)) p.1 p.2.1:=by
 rw [List.take_add_one,h]
 unfold doneP
 rw [List.foldl_append];rfl
section
variable {S : Sums}
theorem doneC (hS:Tb S) {K:Nat→Nat} {h:AH} {v tv:AV} {t:Tp} {l:KL (List Nat×Bool)} (htv:TpA K h tv t) (hrt:riseP (ino t)) (hts:t.size≤100000) (hv:Ps h v l) (hl:l.length≤100000) (hk:∀p∈l,p.1.length≤1000000) (top:∀j,h.nx≤j→K j=0):RnC Tryz.prog S 34 [.agg [tv],v] h fun r h'=>(∃a t',r=.agg [a]∧TpA K h' a t'∧ino t'=doneP (ino t) l∧(Hp t→Hp t'))∧Fr h h':=by
 refine RnC.enter' Tryz.f34 _ 27 [.cell 4 36] (hS.nt _ _ _ (by simp)) bd34 Tryz.func34 rfl rfl rfl ?_
 obtain ⟨lv,sv,ov⟩:=hv.ln
 have otv:=htv.one.1
 have om:=otv
 unfold oneA at om
 simp -dsimp (disch:=(repeat first | rw [nxn] | rw [nxp]);try omega) only [go_sem,lv,ov,otv,om]
 generalize hg:((h.new (.cells [tv] true false)).new (.cells [.nilptr] true false))=g
 have ng:g.nx=h.nx+2:=by rw [←hg];rfl
 have fg:Fr h g:=by rw [←hg];exact (Fr.new _ _).news _
 have c0:g.get h.nx=some (.cells [tv] true false):=by rw [←hg];exact (AH.get_new_ne (by simp)).trans (AH.get_new_eq rfl)
 have c1:g.get (h.nx+1)=some (.cells [.nilptr] true false):=by rw [←hg];exact AH.get_new_eq rfl
 have ht0:TpA (K2 K h.nx) g tv t:=(htv.col fun j hj hk=>(K2.ne hj).trans hk).fr fg
 have htl:(ino t).length≤100000:=by rw [←Tp.size_eq];exact hts
 refine loopK_of (RnL.rounds (Q:=fun ex u=>ex=.exit 0∧u.d=[]∧u.t.get 2=some (.ptr h.nx 0)∧u.t.get 4=some (.ptr (h.nx+1) 0)∧g.nx≤u.h.nx∧(∀j,j<g.nx→j≠h.nx→u.h.get j=g.get j)∧∃a t',u.h.get h.nx=some (.cells [a] true false)∧TpA (K2 K h.nx) u.h a t'∧ino t'=doneP (ino t) l∧(Hp t→Hp t'))
  (fun m u=>u.d=[]∧u.t.get 2=some (.ptr h.nx 0)∧u.t.get 4=some (.ptr (h.nx+1) 0)∧u.t.get 7=some v∧u.t.get 8=some (.int .i64 (l.length:Nat))∧g.nx≤u.h.nx∧(∀j,j<g.nx→j≠h.nx→u.h.get j=g.get j)∧∃(i:Nat) (a:AV) (t':Tp),u.t.get 9=some (.int .i64 (i:Nat))∧u.h.get h.nx=some (.cells [a] true false)∧TpA (K2 K h.nx) u.h a t'∧ino t'=doneP (ino t) (l.take i)∧(Hp t→Hp t')∧i≤l.length∧m=l.length-i) ?_ l.length ?_) ?_
 ·rintro m ⟨tt,gx,d⟩ ⟨e2,g2,g4,g7,g8,hn,ho,i,a,t',g9,hc,ht,hit,hH,hi,rfl⟩
  dsimp only at e2 g2 g4 g7 g8 g9 hn ho hc ht
  subst e2
  by_cases c4:(i:Int)<(l.length:Nat)
  ·have hil:i<l.length:=by omega
   obtain ⟨p,hp⟩:∃p,l[i]? = some p:=⟨_,List.getElem?_eq_getElem hil⟩
   have hpk:=hk p (List.mem_iff_getElem?.2 ⟨i,hp⟩)
   obtain ⟨id,off,c,cs,o,tx,rfl,hgi,hidl,hle,hx,_⟩:=Ps.at hv hp
   have hgx:gx.get id=_:=(ho id (by omega) (by omega)).trans ((fg.get id hidl).trans hgi)
   have oa:=ht.one.1
   obtain ⟨hr1,hr2⟩:=done_rise (l.take i) hrt
   have hsz:t'.size≤1000000:=by
    rw [Tp.size_eq,hit]
    rw [List.length_take] at hr2
    omega
   have hst:=done_take (L:=ino t) hp
   have topx:∀j,gx.nx≤j→K2 K h.nx j=0:=fun j hj=>(if_neg (by omega)).trans (top j (by omega))
   cases hgn:p.2.2
   ·rw [hgn] at hx hst
    rw [if_neg (by decide)] at hst
    simp -dsimp (disch:=(repeat first | rw [nxn] | rw [nxp]);try omega) only [go_sem,c4,g2,g4,g7,g8,g9,hil,hgx,hle,hx,hc,oa]
    generalize hg4:((gx.new (.cells [.str [],.str [],.bool false] true false)).put gx.nx (.cells [.str p.1,.str p.2.1,.bool false] true false))=g4'
    have n4:g4'.nx=gx.nx+1:=by rw [←hg4];rfl
    have f4:Fr gx g4':=by rw [←hg4];exact (Fr.new _ _).put _ (Nat.le_refl _)
    refine callK_of (putC hS p.1 p.2.1 (ht.fr f4) hpk hsz fun j hj=>topx j (by omega)) ?_
    rintro w g5 ⟨⟨a5,rfl,ht5⟩,f5⟩
    have hc5:g5.get h.nx=_:=(f5.get _ (by omega)).trans ((f4.get _ (by omega)).trans hc)
    have n5:=f5.nx
    have hH5:Hp t→Hp (putT2 t' p.1 p.2.1):=fun h=>hp_put (by rw [hit];exact hr1) (hH h) _ _
    have hit5:ino (putT2 t' p.1 p.2.1)=doneP (ino t) (l.take (i+1)):=by rw [hst,ino_put (by rw [hit];exact hr1),hit]
    have fin:∀hh:AH,hh.nx=g5.nx→(∀j,j≠h.nx→hh.get j=g5.get j)→TpA (K2 K h.nx) hh a5 (putT2 t' p.1 p.2.1)∧∀j,j<g.nx→j≠h.nx→hh.get j=g.get j:=fun hh hn2 ho2 =>
     ⟨ht5.keep (by omega) fun j hj hk=>ho2 j (K2.zero hk).2.1,fun j hj hne=>(ho2 j hne).trans ((f5.get j (by omega)).trans ((f4.get j (by omega)).trans (ho j hj hne)))⟩
    rcases ht5.shape with rfl | ⟨iv,rfl⟩
    all_goals
     simp -dsimp (disch:=(repeat first | rw [nxn] | rw [nxp]);try omega) only [go_sem,hc5,c4,g2,g4,g7,g8,g9]
     refine ⟨l.length-(i+1),by omega,trivial,trivial,trivial,trivial,trivial,(by first | omega | (show g.nx≤g5.nx;omega)),(fin _ (by rfl) (by intro j hj;exact AH.get_put_ne hj)).2,i+1,_,_,rfl,rfl,(fin _ (by rfl) (by intro j hj;exact AH.get_put_ne hj)).1,hit5,hH5,by omega,rfl⟩
   ·rw [hgn] at hx hst
    rw [if_pos rfl] at hst
    simp -dsimp (disch:=(repeat first | rw [nxn] | rw [nxp]);try omega) only [go_sem,c4,g2,g4,g7,g8,g9,hil,hgx,hle,hx,hc,oa]
    generalize hg4:((gx.new (.cells [.str [],.str [],.bool false] true false)).put gx.nx (.cells [.str p.1,.str p.2.1,.bool true] true false))=g4'
    have n4:g4'.nx=gx.nx+1:=by rw [←hg4];rfl
    have f4:Fr gx g4':=by rw [←hg4];exact (Fr.new _ _).put _ (Nat.le_refl _)
    refine callK_of (dropC hS p.1 (ht.fr f4) (by rw [hit];exact hr1) hpk hsz fun j hj=>topx j (by omega)) ?_
    rintro w g5 ⟨⟨a5,rfl,ht5⟩,f5⟩
    have hc5:g5.get h.nx=_:=(f5.get _ (by omega)).trans ((f4.get _ (by omega)).trans hc)
    have n5:=f5.nx
    have hH5:Hp t→Hp (dropT2 t' p.1):=fun h=>hp_drop (by rw [hit];exact hr1) (hH h) _
    have hit5:ino (dropT2 t' p.1)=doneP (ino t) (l.take (i+1)):=by rw [hst,ino_drop (by rw [hit];exact hr1),hit]
    have fin:∀hh:AH,hh.nx=g5.nx→(∀j,j≠h.nx→hh.get j=g5.get j)→TpA (K2 K h.nx) hh a5 (dropT2 t' p.1)∧∀j,j<g.nx→j≠h.nx→hh.get j=g.get j:=fun hh hn2 ho2 =>
     ⟨ht5.keep (by omega) fun j hj hk=>ho2 j (K2.zero hk).2.1,fun j hj hne=>(ho2 j hne).trans ((f5.get j (by omega)).trans ((f4.get j (by omega)).trans (ho j hj hne)))⟩
    rcases ht5.shape with hsh | ⟨iv,hsh⟩
    all_goals
     subst hsh
     simp -dsimp (disch:=(repeat first | rw [nxn] | rw [nxp]);try omega) only [go_sem,hc5,c4,g2,g4,g7,g8,g9]
     refine ⟨l.length-(i+1),by omega,trivial,trivial,trivial,trivial,trivial,(by first | omega | (show g.nx≤g5.nx;omega)),(fin _ (by rfl) (by intro j hj;exact AH.get_put_ne hj)).2,i+1,_,_,rfl,rfl,(fin _ (by rfl) (by intro j hj;exact AH.get_put_ne hj)).1,hit5,hH5,by omega,rfl⟩
  ·have:i=l.length:=by omega
   subst this
   rw [List.take_length] at hit
   simp -dsimp (disch:=(repeat first | rw [nxn] | rw [nxp]);try omega) only [go_sem,c4,g2,g4,g7,g8,g9]
   exact ⟨trivial,trivial,trivial,trivial,hn,ho,a,t',hc,ht,hit,hH⟩
 ·simp -dsimp (disch:=(repeat first | rw [nxn] | rw [nxp]);try omega) only [go_sem]
  exact ⟨trivial,trivial,trivial,trivial,trivial,Nat.le_refl _,fun j _ _=>by first | rfl | trivial,0,tv,t,rfl,c0,ht0,rfl,id,Nat.zero_le _,rfl⟩
 ·rintro ex ⟨tt,gx,d⟩ ⟨rfl,rfl,g2,g4,hn,ho,a,t',hc,ht,hit,hH⟩
  dsimp only at g2 g4 hn ho hc ht
  have oa:=ht.one.1
  have hc1:gx.get (h.nx+1)=_:=(ho _ (by omega) (by omega)).trans c1
  have fin:∀hh:AH,hh.nx=gx.nx→(∀j,j≠h.nx+1→hh.get j=gx.get j)→TpA K hh a t'∧Fr h hh:=fun hh hn2 ho2 =>
   ⟨(ht.keep (by omega) fun j hj hk=>ho2 j (K2.zero hk).2.2).col fun j hj hk=>(K2.zero hk).1,⟨by omega,fun j hj=>(ho2 j (by omega)).trans ((ho j (by omega) (by omega)).trans (fg.get j hj))⟩⟩
  rcases ht.shape with rfl | ⟨iv,rfl⟩
  all_goals
   simp -dsimp (disch:=(repeat first | rw [nxn] | rw [nxp]);try omega) only [go_sem,hc,hc1,g2,g4]
   exact ⟨⟨_,t',rfl,(fin _ (by rfl) (by intro j hj;exact AH.get_put_ne hj)).1,hit,hH⟩,(fin _ (by rfl) (by intro j hj;exact AH.get_put_ne hj)).2⟩
theorem eachC (hS:Tb S) {K:Nat→Nat} {h0:AH} {fn:FuncId} {cs:List AV} (hb:bodied Tryz.prog fn=true) (hoc:oneA (.func (.func fn) [] cs)=true) {N:Nat} {J:KL (List Nat)→AH→Prop}
  (hJ:∀pre h,J pre h→h0.nx≤h.nx∧∀j,j<h0.nx→K j=0→h.get j=h0.get j)
  (hst:∀pre h id k x w z lv rv,J pre h→pre.length<N→h.get id=some (.cells [.str k,.str x,w,z,lv,rv] true false)→id<h0.nx→K id=0→oneA lv=true→oneA rv=true→RnC Tryz.prog S fn (.ptr id 0::cs) h fun r h'=>r=.bool true∧J (pre++[(k,x)]) h') :
  ∀(t:Tp) {v:AV} {pre:KL (List Nat)} {h:AH},TpA K h0 v t→J pre h→pre.length+t.size≤N→RnC Tryz.prog S 37 [v,.str [],.func (.func fn) [] cs] h fun r h'=>r=.bool true∧J (pre++ino t) h'
 | .nil,v,pre,h,hv,hj,hn=>by
  refine RnC.enter' Tryz.f37 _ 42 [.tmp 6] (hS.nt _ _ _ (by simp)) bd37 Tryz.func37 rfl rfl rfl ?_
  cases hv
  simp -dsimp only [go_sem,eqNn,hoc]
  exact ⟨trivial,by rw [show ino .nil=[] from rfl,List.append_nil];exact hj⟩
 | .nd k x l r,v,pre,h,hv,hj,hn=>by
  refine RnC.enter' Tryz.f37 _ 42 [.tmp 6] (hS.nt _ _ _ (by simp)) bd37 Tryz.func37 rfl rfl rfl ?_
  obtain ⟨id,lv,rv,rfl,h2,h3,h4,h5,h6⟩:=hv
  have hsz:(Tp.nd k x l r).size=l.size+r.size+1:=rfl
  have ol:=h5.one.1
  have or_:=h6.one.1
  have hc:=((hJ _ _ hj).2 id h3 h4).trans h2
  have l0:lessA k []=false:=by cases k <;> rfl
  simp -dsimp only [go_sem,eqNp,hc,ltSt,l0,b0e,hoc,ol,or_]
  refine callK_of (eachC hS hb hoc hJ hst l h5 hj (by omega)) ?_
  rintro w g ⟨rfl,hj1⟩
  have hc1:=((hJ _ _ hj1).2 id h3 h4).trans h2
  have hls:(ino l).length=l.size:=(Tp.size_eq l).symm
  simp -dsimp only [go_sem,hoc,hb]
  refine callK_of (hst _ _ id k x _ _ lv rv hj1 (by rw [List.length_append];omega) hc1 h3 h4 ol or_) ?_
  rintro w g2 ⟨rfl,hj2⟩
  have hc2:=((hJ _ _ hj2).2 id h3 h4).trans h2
  simp -dsimp only [go_sem,hc2,hoc,or_,b0e]
  refine callK_of (eachC hS hb hoc hJ hst r h6 hj2 (by simp only [List.length_append,List.length_singleton];omega)) ?_
  rintro w g3 ⟨rfl,hj3⟩
  try simp -dsimp only [go_sem]
  refine ⟨by first | trivial | rfl,?_⟩
  have e:pre++ino (.nd k x l r)=pre++ino l++[(k,x)]++ino r:=by
   show pre++(ino l++(k,x)::ino r)=_
   simp
  rw [e];exact hj3
theorem sizeC (hS:Tb S) {K:Nat→Nat} {h:AH} {v:AV} {t:Tp} (hv:TpA K h v t):RnC Tryz.prog S 54 [.agg [v]] h fun r h'=>r=.int .i64 (t.size:Nat)∧Fr h h':=by
 refine RnC.enter' Tryz.f54 _ 6 [.tmp 2] (hS.nt _ _ _ (by simp)) bd54 Tryz.func54 rfl rfl rfl ?_
 have ov:=hv.one.1
 have om:=ov
 unfold oneA at om
 simp -dsimp only [go_sem,ov,om]
 refine callK_of (countC hS (hv.fr (Fr.new _ _))) ?_
 rintro w g ⟨rfl,rfl⟩
 try simp -dsimp only [go_sem]
 exact ⟨by first | trivial | rfl,Fr.new _ _⟩
end
theorem Ps.of {n0:Nat} {h:AH} {v:AV} {l:KL (List Nat×Bool)} (hb:Ez 3 n0 h v (l.flatMap pc)):Ps h v l:=by
 rcases hb with ⟨rfl,h0⟩ | ⟨id,n,c,tx,rfl,h2,h3,h4,h5,h6,h7⟩
 ·refine .inl ⟨rfl,?_⟩
  have:=congrArg List.length h0
  rw [pc_len] at this
  exact List.length_eq_zero_iff.1 (by simp at this;omega)
 ·rw [pc_len] at h5
  have:n=l.length:=by omega
  subst this
  refine .inr ⟨id,0,c,_,true,tx,rfl,h2,h3,fun k hk=>?_,by rw [pc_len];omega,by rw [List.drop_zero,←pc_len,List.take_length]⟩
  rcases h6 with h6 | h6
  ·rw [h6] at hk;cases hk
  ·rw [h6] at hk;cases hk;exact Nat.le_refl _
theorem Ps.first {h:AH} {v:AV} {l:KL (List Nat×Bool)} (hb:Ps h v l):lenA v=some l.length∧firstA h 3 l.length v=some (l.flatMap pc):=by
 rcases hb with ⟨rfl,rfl⟩ | ⟨id,off,c,cs,o,tx,rfl,h2,h3,h4,h5,h6⟩
 ·exact ⟨rfl,rfl⟩
 ·exact ⟨rfl,by rw [firstA_sl h2 (Nat.le_refl _) h5,h6]⟩
theorem Ps.to {h:AH} {v:AV} {l:KL (List Nat×Bool)} {n:Nat} (hb:Ps h v l) (hn:n≤l.length):∃v',(∀h1,evSlice Tryz.prog h1 22 v none (some (.int .i64 (n:Nat))) none=some v')∧Ps h v' (l.take n)∧oneA v'=true∧sameAV 20 v' v'=true:=by
 rcases hb with ⟨rfl,rfl⟩ | ⟨id,off,c,cs,o,tx,rfl,h2,h3,h4,h5,h6⟩
 ·obtain rfl:n=0:=by simpa using hn
  refine ⟨.nilsl,fun h1=>?_,.inl ⟨rfl,rfl⟩,rfl,rfl⟩
  simp [evSlice,Tryz.underlying22,tz58,boundsA,boundA,upTo]
 ·refine ⟨.sl id (off+0*3) (n-0) 3 (c.map (· - 0)),fun h1=>?_,.inr ⟨id,off+0*3,c.map (· - 0),cs,o,tx,?_,h2,h3,?_,?_,?_⟩,rfl,by simp [sameAV]⟩
  ·have hu:upTo ((n:Nat):Int) (c.getD l.length)=some n:=by
    rw [upTo_of (by omega) (by cases c with
     | none=>simp;omega
     | some c=>simp;have:=h4 c rfl;omega)]
    simp
   simp [evSlice,Tryz.underlying22,tz58,boundsA,boundA,hu]
  ·simp;omega
  ·intro k hk
   cases c with
   | none=>simp at hk
   | some c=>simp at hk;have:=h4 c rfl;simp;omega
  ·simp only [List.length_take];omega
  ·have e:(l.take n).flatMap pc=(l.flatMap pc).take (n*3):=by
    clear h6 h5 h4
    induction l generalizing n with
    | nil=>simp
    | cons p l ih =>
     cases n with
     | zero=>simp
     | succ n =>
      rw [List.take_succ_cons,List.flatMap_cons,List.flatMap_cons,ih (n:=n) (by simpa using hn)]
      have:(n+1)*3=(pc p).length+n*3:=by show _=3+_;omega
      rw [this,List.take_length_add_append]
   rw [e,←h6,List.take_take]
   simp only [List.length_take]
   congr 1
   omega
theorem Ps.frm {h:AH} {v:AV} {l:KL (List Nat×Bool)} {n:Nat} (hb:Ps h v l) (hn:n≤l.length):∃v',(∀h1,evSlice Tryz.prog h1 22 v (some (.int .i64 (n:Nat))) none none=some v')∧Ps h v' (l.drop n)∧oneA v'=true∧sameAV 20 v' v'=true:=by
 rcases hb with ⟨rfl,rfl⟩ | ⟨id,off,c,cs,o,tx,rfl,h2,h3,h4,h5,h6⟩
 ·obtain rfl:n=0:=by simpa using hn
  refine ⟨.nilsl,fun h1=>?_,.inl ⟨rfl,rfl⟩,rfl,rfl⟩
  simp [evSlice,Tryz.underlying22,tz58,boundsA,boundA,upTo]
 ·refine ⟨.sl id (off+n*3) (l.length-n) 3 (c.map (· - n)),fun h1=>?_,.inr ⟨id,off+n*3,c.map (· - n),cs,o,tx,?_,h2,h3,?_,?_,?_⟩,rfl,by simp [sameAV]⟩
  ·have hu:upTo ((n:Nat):Int) l.length=some n:=by rw [upTo_of (by omega) (by omega)];simp
   simp [evSlice,Tryz.underlying22,tz58,boundsA,boundA,hu]
  ·simp
  ·intro k hk
   cases c with
   | none=>simp at hk
   | some c=>simp at hk;have:=h4 c rfl;simp;omega
  ·simp only [List.length_drop];omega
  ·have e:(l.drop n).flatMap pc=(l.flatMap pc).drop (n*3):=by
    clear h6 h5 h4
    induction l generalizing n with
    | nil=>simp
    | cons p l ih =>
     cases n with
     | zero=>simp
     | succ n =>
      rw [List.drop_succ_cons,List.flatMap_cons,ih (n:=n) (by simpa using hn)]
      have:(n+1)*3=(pc p).length+n*3:=by show _=3+_;omega
      rw [this,List.drop_length_add_append]
   rw [e,←h6,List.drop_take,List.drop_drop]
   simp only [List.length_drop]
   congr 1
   omega
theorem aiP:appI Tryz.prog 58=some (3,40):=by kernel_rfl
theorem pc_all (l:KL (List Nat×Bool)):(l.flatMap pc).all oneA=true:=by
 rw [List.all_eq_true]
 intro x hx
 obtain ⟨p,_,hp⟩:=List.mem_flatMap.1 hx
 simp only [pc,List.mem_cons,List.not_mem_nil,or_false] at hp
 rcases hp with rfl | rfl | rfl <;> rfl
theorem appP {h0 h:AH} {v x:AV} {l m:KL (List Nat×Bool)} (hb:Ez 3 h0.nx h v (l.flatMap pc)) (hx:Ps h x m) (hf:Fr h0 h) (hl:l.length+m.length≤1000000) :
  ∃v' h',evAppend Tryz.prog h #[22,22] v x=some (.val v' h')∧Fr h0 h'∧Ez 3 h0.nx h' v' ((l++m).flatMap pc)∧oneA v'=true:=by
 obtain ⟨q1,q2⟩:=hx.first
 obtain ⟨v',h',ha,hf',hz',ov',_⟩:=Ez.app (P:=Tryz.prog) (z:=3) (h0:=h0) (h:=h) (v:=v) (l:=l.flatMap pc) (x:=x) (k:=m.length) (m:=m.flatMap pc) Tryz.underlying22 Tryz.underlying22 rfl aiP (by decide) (by decide) hb q1 q2 (pc_len m) (pc_all m) hf (by rw [pc_len,pc_len];omega)
 exact ⟨v',h',ha,hf',by rw [List.flatMap_append];exact hz',ov'⟩
theorem ez0 (h:AH):Ez 3 h.nx (h.new (.cells [] true true)) (.sl h.nx 0 0 3 (some 0)) (([]:KL (List Nat×Bool)).flatMap pc):=.inr ⟨h.nx,0,some 0,true,rfl,AH.get_new_eq rfl,Nat.lt_succ_self _,Nat.le_refl _,rfl,.inr rfl,.inr ⟨rfl,rfl⟩⟩
theorem ps1 {h:AH} {id:Nat} {p:Pr} (hg:h.get id=some (.cells (pc p) true false)) (hid:id<h.nx):Ps h (.sl id 0 1 3 (some 1)) [p] :=
 .inr ⟨id,0,some 1,pc p,true,false,rfl,hg,hid,fun k hk=>(by cases hk;exact Nat.le_refl _),by show 3≤3;exact Nat.le_refl _,by simp [pc]⟩
theorem bldP2 (k x:List Nat):evBuild Tryz.prog 58 [(0,.str k),(1,.str x)]=some (.agg [.str k,.str x,.bool false]):=by kernel_rfl
theorem neSt (h:AH) (a b:List Nat):binA Tryz.prog h .neq 9 (.str a) (.str b)=some (.bool (!decide (a=b))):=by
 simp [binA,strA,eqL_eq]
def pf (L:KL (List Nat)):KL (List Nat×Bool):=L.map fun e=>(e.1,(e.2,false))
section
variable {S : Sums}
theorem rangeC (hS:Tb S) {K:Nat→Nat} {h:AH} {v:AV} {t:Tp} {n:Nat} (hv:TpA K h v t) (hn:n=t.size) (hsz:t.size≤100000):RnC Tryz.prog S 17 [.agg [v],.str [],.str [],.int .i64 (n:Nat)] h fun r h'=>Ps h' r (pf (ino t))∧Fr h h':=by
 refine RnC.enter' Tryz.f17 _ 16 [.tmp 8] (hS.nt _ _ _ (by simp)) bd17 Tryz.func17 rfl rfl rfl ?_
 have ov:=hv.one.1
 have om:=ov
 unfold oneA at om
 have d1:∀(o1 o2 o3 o4:AO),((((h.new o1).new o2).new o3).new o4).get h.nx=some o1:=fun o1 o2 o3 o4=>(AH.get_new_ne (by simp <;> omega)).trans ((AH.get_new_ne (by simp <;> omega)).trans ((AH.get_new_ne (by simp)).trans (AH.get_new_eq rfl)))
 simp -dsimp (disch:=(repeat first | rw [nxn] | rw [nxp]);try omega) only [go_sem,ov,om,d1]
 generalize hg:((((h.new (.cells [v] true false)).new (.cells [.str []] true false)).new (.cells [.int .i64 (n:Nat)] true false)).new (.cells [.nilsl] true false))=g
 have ng:g.nx=h.nx+4:=by rw [←hg];rfl
 have fg:Fr h g:=by rw [←hg];exact (((Fr.new _ _).news _).news _).news _
 have c1:g.get (h.nx+1)=some (.cells [.str []] true false):=by rw [←hg];exact (AH.get_new_ne (by simp <;> omega)).trans ((AH.get_new_ne (by simp)).trans (AH.get_new_eq rfl))
 have c2:g.get (h.nx+2)=some (.cells [.int .i64 (n:Nat)] true false):=by rw [←hg];exact (AH.get_new_ne (by simp)).trans (AH.get_new_eq rfl)
 have c3:g.get (h.nx+3)=some (.cells [.nilsl] true false):=by rw [←hg];exact AH.get_new_eq rfl
 refine callK_of (eachC hS (K:=K) (h0:=h) (fn:=38) (cs:=[.ptr (h.nx+3) 0,.ptr (h.nx+2) 0,.ptr (h.nx+1) 0]) bd38 rfl (N:=n)
  (J:=fun pre hh=>g.nx≤hh.nx∧(∀j,j<g.nx→j≠h.nx+3→hh.get j=g.get j)∧∃w,hh.get (h.nx+3)=some (.cells [w] true false)∧Ez 3 g.nx hh w ((pf pre).flatMap pc))
  (fun pre hh ⟨j1,j2,_⟩=>⟨by omega,fun j hj _=>(j2 j (by omega) (by omega)).trans (fg.get j hj)⟩) ?_ t hv (pre:=[]) ⟨Nat.le_refl _,fun _ _ _=>rfl,.nilsl,c3,.inl ⟨rfl,rfl⟩⟩ (by rw [hn];simp)) ?_
 ·rintro pre hh id k x w z lv rv ⟨j1,j2,ww,j3,j4⟩ hpre hid hidl hk0 olv orv
  refine RnC.enter' Tryz.f38 _ 34 [.tmp 5] (hS.nt _ _ _ (by simp)) bd38 Tryz.func38 rfl rfl rfl ?_
  have d1:hh.get (h.nx+1)=_:=(j2 _ (by omega) (by omega)).trans c1
  have d2:hh.get (h.nx+2)=_:=(j2 _ (by omega) (by omega)).trans c2
  have hps:=Ps.of j4
  obtain ⟨lw,sw,ow⟩:=hps.ln
  have hpl:(pf pre).length=pre.length:=by simp [pf]
  have c5:¬((n:Nat):Int)≤(((pf pre).length:Nat):Int):=by omega
  have bP:=bldP2 k x
  simp -dsimp (disch:=(repeat first | rw [nxn] | rw [nxp]);try omega) only [go_sem]
  refine syDraw.keepN 0 (fun _=>True) (by kernel_rfl) (by kernel_rfl) rfl ?_
  simp -dsimp (disch:=(repeat first | rw [nxn] | rw [nxp]);try omega) only [go_sem,j3,d1,d2,lw,ow,c5,neSt,b0e]
  refine syDraw.keepN 0 (fun _=>True) (by kernel_rfl) (by kernel_rfl) rfl ?_
  have fgh:Fr { tr:=hh.tr,nx:=g.nx } hh:=⟨j1,fun j hj=>rfl⟩
  have f9:Fr hh (({ tr:=hh.tr,nx:=hh.nx+16+13 }:AH).put (hh.nx+16+10) (.cells [.str k,.str x,.bool false] true false)):=((Fr.refl hh).more _ (by omega)).put _ (by omega)
  obtain ⟨w',h',ha,hf',hz',ow'⟩:=appP (h0:={ tr:=(({ tr:=hh.tr,nx:=hh.nx+16+13 }:AH).put (hh.nx+16+10) (.cells [.str k,.str x,.bool false] true false)).tr,nx:=g.nx }) (h:=({ tr:=hh.tr,nx:=hh.nx+16+13 }:AH).put (hh.nx+16+10) (.cells [.str k,.str x,.bool false] true false)) (l:=pf pre) (m:=[(k,(x,false))]) (j4.fr f9) (ps1 (AH.get_put_eq rfl) (show hh.nx+16+10<hh.nx+16+13 by omega)) ⟨by show g.nx≤hh.nx+16+13;omega,fun _ _=>rfl⟩ (by simp;omega)
  have eX:∀j,j<g.nx→(({ tr:=hh.tr,nx:=hh.nx+16+13 }:AH).put (hh.nx+16+10) (.cells [.str k,.str x,.bool false] true false)).get j=hh.get j:=fun j hj=>AH.get_put_ne (by omega)
  have c3h:h'.get (h.nx+3)=some (.cells [ww] true false):=(hf'.get _ (show h.nx+3<g.nx by omega)).trans ((eX _ (by omega)).trans j3)
  have fin:∀gg:AH,gg.nx=h'.nx→(∀j,j≠h.nx+3→gg.get j=h'.get j)→gg.get (h.nx+3)=some (.cells [w'] true false)→g.nx≤gg.nx∧(∀j,j<g.nx→j≠h.nx+3→gg.get j=g.get j)∧Ez 3 g.nx gg w' ((pf (pre++[(k,x)])).flatMap pc):=fun gg hn2 ho2 hc2=>by
   have hfn:g.nx≤h'.nx:=hf'.nx
   refine ⟨by omega,fun j hj hne=>(ho2 j hne).trans ((hf'.get j hj).trans ((eX j hj).trans (j2 j hj hne))),?_⟩
   have e:pf (pre++[(k,x)])=pf pre++[(k,(x,false))]:=by simp [pf]
   rw [e]
   rcases hz' with h1 | ⟨id',n',c',tx',h1,h2,h3,h4,h5⟩
   ·exact .inl h1
   ·have h4':g.nx≤id':=h4
    exact .inr ⟨id',n',c',tx',h1,(ho2 id' (by omega)).trans h2,by omega,h4,h5⟩
  have shp:w'=.nilsl∨∃id n c,w'=.sl id 0 n 3 c:=by
   rcases hz' with ⟨h1,_⟩ | ⟨id',n',c',tx',h1,_⟩
   ·exact .inl h1
   ·exact .inr ⟨id',n',c',h1⟩
  obtain ⟨k1,k2,k3⟩:=fin (h'.put (h.nx+3) (.cells [w'] true false)) rfl (fun j hj=>AH.get_put_ne hj) (AH.get_put_eq rfl)
  rcases shp with rfl | ⟨sid,sn,sc,rfl⟩
  all_goals
   simp -dsimp (disch:=(repeat first | rw [nxn] | rw [nxp]);try omega) only [go_sem,hid,j3,bP,ow,ha,ow',c3h]
   exact ⟨trivial,k1,k2,_,rfl,k3⟩
 ·rintro w g2 ⟨rfl,j1,j2,ww,j3,j4⟩
  have ow:=(Ps.of j4).ln.2.2
  simp -dsimp (disch:=(repeat first | rw [nxn] | rw [nxp]);try omega) only [go_sem,j3,ow]
  exact ⟨Ps.of j4,⟨by omega,fun j hj=>(j2 j (by omega) (by omega)).trans (fg.get j hj)⟩⟩
end
end Go.Proofs.YtaooopaemphfjaaGreatDoor.tbl
end