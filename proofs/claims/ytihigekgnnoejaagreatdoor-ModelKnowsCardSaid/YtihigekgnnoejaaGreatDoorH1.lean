/- Texts joined: MIm, MIn, MIo, MIp. -/
import Derived.Test.YtihigekgnnoejaaGreatDoorK0
import Derived.Test.YtihigekgnnoejaaGreatDoorK1
import Derived.Test.YtihigekgnnoejaaGreatDoorAb7
set_option maxRecDepth 100000
set_option linter.unusedVariables false
set_option linter.unusedSimpArgs false
set_option maxHeartbeats 64000000
section
namespace Go.Proofs.YtihigekgnnoejaaGreatDoor.mdl
open Go Go.Abs Go.Proofs
section
variable {S : Sums}
theorem applyXC (hS:Nf S) {K:Nat→Nat} {h:AH} {cs:List AV} {m:Mt} {B:Nat} (kind:Int) (fo:List Nat) (dv:Int) (hk:kind<1∨4<kind) (hm:Ma K h cs m) (top:∀j,h.nx≤j→K j=0) (hsz:szM m B) (hB:B<1000000):RnC Tryz.prog S 61 [.agg cs,.agg [.int .i64 kind,.str fo,.int .i64 dv]] h fun r h'=>(∃m' cs' e,r=.tup [.agg cs',.int .i64 e]∧Ma K h' cs' m'∧szM m' (B+1))∧Fr h h':=by
 have hm0:=hm
 obtain ⟨w,rfl,hw⟩:=hm
 refine RnC.enter' Tryz.f61 _ 170 [.cell 4 43,.tmp 5] (hS.nx _ _ _ (by simp)) bd61 Tryz.func61 rfl rfl rfl ?_
 obtain ⟨lw,sw,ow⟩:=hw.ln
 have mw:=oneM ow
 have hl:=hw.2
 simp -dsimp only [go_sem,ow,mw]
 generalize hg:(((h.new (.cells [.int .i64 m.own,w] true false)).new (.cells [.int .i64 kind,.str fo,.int .i64 dv] true false)).new (.cells [.int .i64 0,.nilsl] true false))=g1
 have n1:g1.nx=h.nx+3:=by rw [←hg];rfl
 have f1:Fr h g1:=by rw [←hg];exact ((Fr.new _ _).news _).news _
 have q1:g1.get h.nx=some (.cells [.int .i64 m.own,w] true false):=by rw [←hg];exact (AH.get_new_ne (by first | (simp [AH.new];done) | (simp [AH.new];omega))).trans ((AH.get_new_ne (by simp [AH.new])).trans (AH.get_new_eq rfl))
 have q2:g1.get (h.nx+1)=some (.cells [.int .i64 kind,.str fo,.int .i64 dv] true false):=by rw [←hg];exact (AH.get_new_ne (by simp [AH.new])).trans (AH.get_new_eq rfl)
 have q3:g1.get (h.nx+1+1)=some (.cells [.int .i64 0,.nilsl] true false):=by rw [←hg];exact AH.get_new_eq rfl
 clear hg
 have bad:∀(g:AH) (e:Int),Fr h g→((∃m' cs' e',(AV.tup [.agg [.int .i64 0,.nilsl],.int .i64 e])=.tup [.agg cs',.int .i64 e']∧Ma K g cs' m'∧szM m' (B+1))∧Fr h g):=fun g e f=>⟨⟨⟨0,[]⟩,_,_,rfl,ma0 K g,Nat.zero_le _,fun r hr=>by cases hr⟩,f⟩
 try simp -dsimp only [go_sem,q1,ow,mw]
 refine callK_of (mcheckC hS (hm0.fr f1)) ?_
 rintro r g2 ⟨⟨n,rfl⟩,f2⟩
 have n2:=f2.nx
 have f12:=f1.trans f2
 have p1:=(f2.get _ (by omega)).trans q1
 have p2:=(f2.get _ (by omega)).trans q2
 have p3:=(f2.get _ (by omega)).trans q3
 by_cases hn:n=0
 case neg =>
  have nb:=fun g=>neIb g 89 n 0
  have hnb:(n != 0)=true:=by simp [hn]
  simp -dsimp only [go_sem,nb,hnb,bldM0,p3]
  exact bad _ _ (f12.put _ (by omega))
 subst hn
 have hne0:∀g,binA Tryz.prog g .neq 89 (.int .i64 0) (.int .i64 0)=some (.bool false):=fun g=>neIb g _ 0 0
 have k3:¬kind=3:=by omega
 have k4:¬kind=4:=by omega
 rcases hk with hk | hk
 ·simp -dsimp only [go_sem,hne0,p2,hk,k3,k4,bldM0,p3]
  exact bad _ _ (f12.put _ (by omega))
 ·have k1:¬kind<1:=by omega
  simp -dsimp only [go_sem,hne0,p2,hk,k3,k4,k1,bldM0,p3]
  exact bad _ _ (f12.put _ (by omega))
theorem applyC (hS:Nf S) {K:Nat→Nat} {h:AH} {cs:List AV} {m:Mt} {B:Nat} (kind:Int) (fo:List Nat) (dv:Int) (hm:Ma K h cs m) (top:∀j,h.nx≤j→K j=0) (hsz:szM m B) (hB:B<1000000):RnC Tryz.prog S 61 [.agg cs,.agg [.int .i64 kind,.str fo,.int .i64 dv]] h fun r h'=>(∃m' cs' e,r=.tup [.agg cs',.int .i64 e]∧Ma K h' cs' m'∧szM m' (B+1))∧Fr h h':=by
 have hk:(kind<1∨4<kind)∨kind=1∨kind=2∨kind=3∨kind=4:=by omega
 rcases hk with hk | rfl | rfl | rfl | rfl
 ·exact applyXC hS kind fo dv hk hm top hsz hB
 ·exact apply1C hS fo dv hm top hsz hB
 ·exact apply2C hS fo dv hm top hsz hB
 ·exact apply3C hS fo dv hm top hsz hB
 ·exact apply4C hS fo dv hm top hsz hB
end
def Hy (n0:Nat) (K:Nat→Nat) (h:AH) (cs:List AV) (x:Hd):Prop:=∃v d pv,cs=[.int .i64 x.dev,.str x.folder,.str x.path,.str x.now.path,v,.int .i64 x.now.own,.bool x.now.gone,.int .i64 x.now.size,.int .i64 x.now.len,d,pv,.int .i64 (x.start:Nat)]∧Cv K h v x.now.vec∧Dv K h d x.now.digs∧x.now.path.length≤1000000∧Oz 7 Ra n0 K h pv x.past∧(∀a,blk pv=some a→K a=5)∧x.past.length≤1000000
theorem oz_blk {α:Type} {z:Nat} {E:(Nat→Nat)→AH→List AV→α→Prop} {n0:Nat} {K:Nat→Nat} {h:AH} {v:AV} {l:List α} (hb:Oz z E n0 K h v l) {a:Nat} (ha:blk v=some a):n0≤a∧a<h.nx:=let ⟨_,a2,_⟩:=hb;a2.blkLt ha
theorem eyH:Ey 12 10 Hy where
 gk:=fun ⟨v,d,pv,e,h1,h2,h3,h4,h5,h6⟩ g hh=>by
  subst e
  exact ⟨v,d,pv,rfl,h1.gk g,h2.gk g,h3,h4.keep elRa g fun id o n c hv=>hh id (by rw [hv];rfl),h5,h6⟩
 col:=fun ⟨v,d,pv,e,h1,h2,h3,h4,h5,h6⟩ hk hh=>by
  subst e
  exact ⟨v,d,pv,rfl,h1.col hk,h2.col hk,h3,h4.col elRa hk fun id o n c hv=>by rw [hh id (by rw [hv];rfl)];decide,hh,h6⟩
 own:=fun ⟨v,d,pv,e,h1,h2,h3,h4,h5,h6⟩ ha=>by subst e;exact ⟨h5 _ ha,oz_blk h4 ha⟩
 len:=fun ⟨v,d,pv,e,h1,h2,h3,h4,h5,h6⟩=>by subst e;exact ⟨rfl,by simp [h1.ln.2.2.2,h2.ln.2.2,h4.one.1];simp [oneA]⟩
 pos:=by decide
theorem hy_ha {n0:Nat} {K:Nat→Nat} {h:AH} {cs:List AV} {x:Hd} (hb:Hy n0 K h cs x):Ha (fun _=>0) h cs x:=by
 obtain ⟨v,d,pv,rfl,h1,h2,h3,h4,h5,h6⟩:=hb
 exact ⟨v,d,pv,rfl,h1.col fun _ _ _=>rfl,h2.col fun _ _ _=>rfl,h3,h4.sl elRa,h6⟩
structure Zs (n0:Nat) (K:Nat→Nat) (h:AH) (p:Nat) (l:List Hd) (s:List Mt):Prop where
 top:∀j,h.nx≤j→K j=0
 ob:∃hv sv,h.get p=some (.cells [hv,sv] true false)∧Oy 12 10 Hy n0 K h hv l∧Oz 2 Ma n0 K h sv s∧∀a,blk sv=some a→K a=2
 pn:n0≤p∧p<h.nx∧K p=3
 ln:l.length≤1000000∧s.length≤1000000
theorem Zs.vs {n0:Nat} {K:Nat→Nat} {h:AH} {p:Nat} {l:List Hd} {s:List Mt} (z:Zs n0 K h p l s):Vs (fun _=>0) h p l s:=by
 obtain ⟨hv,sv,h1,h2,h3,h4⟩:=z.ob
 exact ⟨hv,sv,h1,z.pn.2.1,⟨h2.sls eyH (fun _ _ _ _ _=>rfl) fun cs x hx=>hy_ha hx,z.ln.1⟩,h3.sl elMa,z.ln.2⟩
theorem Zs.fr {n0:Nat} {K:Nat→Nat} {h h':AH} {p:Nat} {l:List Hd} {s:List Mt} (z:Zs n0 K h p l s) (f:Fr h h'):Zs n0 K h' p l s:=by
 obtain ⟨hv,sv,h1,h2,h3,h4⟩:=z.ob
 exact ⟨fun j hj=>z.top j (Nat.le_trans f.nx hj),⟨hv,sv,(f.get _ z.pn.2.1).trans h1,h2.fr eyH f,h3.fr elMa f,h4⟩,⟨z.pn.1,Nat.lt_of_lt_of_le z.pn.2.1 f.nx,z.pn.2.2⟩,z.ln⟩
structure Zg (K:Nat→Nat) (h:AH) (K':Nat→Nat) (h':AH):Prop where
 gk:Gk K h h'
 col:∀j,j<h.nx→K' j=K j
theorem Zg.trans {K K' K'':Nat→Nat} {h h' h'':AH} (a:Zg K h K' h') (b:Zg K' h' K'' h''):Zg K h K'' h'':=⟨⟨Nat.le_trans a.gk.nx b.gk.nx,fun j hj hk=>(b.gk.get j (Nat.lt_of_lt_of_le hj a.gk.nx) ((a.col j hj).trans hk)).trans (a.gk.get j hj hk)⟩,fun j hj=>(b.col j (Nat.lt_of_lt_of_le hj a.gk.nx)).trans (a.col j hj)⟩
theorem fr_zg {h h':AH} (f:Fr h h') (K:Nat→Nat):Zg K h K h':=⟨f.gk K,fun _ _=>rfl⟩
theorem Zg.ra {K K':Nat→Nat} {h h':AH} {cs:List AV} {r:Rc} (z:Zg K h K' h') (hr:Ra K h cs r):Ra K' h' cs r:=(hr.col fun j hj hk=>(z.col j hj).trans hk).gk ⟨z.gk.nx,fun j hj hk=>z.gk.get j hj ((z.col j hj).symm.trans hk)⟩
def newH (k:Ky):Hd:={ dev:=k.1,folder:=k.2.1,path:=k.2.2,now:={ path:=[],vec:=[],own:=0,gone:=false,size:=0,len:=0,digs:=[] },past:=[],start:=0 }
def roomF (l:List Hd) (k:Ky):List Hd:=if (findK l k).2 then l else l.take (findK l k).1++newH k::l.drop (findK l k).1
def nowX (x:Hd) (r:Rc):Hd:={ x with now:=r,past:=x.past++[r] }
def setF (l:List Hd) (k:Ky) (r:Rc):List Hd:=(roomF l k).modify (findK l k).1 fun x=>nowX x r
theorem bldH (a:Int) (b c:List Nat):evBuild Tryz.prog 49 [(0,.int .i64 a),(1,.str b),(2,.str c)]=some (.agg [.int .i64 a,.str b,.str c,.str [],.nilsl,.int .i64 0,.bool false,.int .i64 0,.int .i64 0,.nilsl,.nilsl,.int .i64 0]):=by kernel_rfl
theorem hy_new (n0:Nat) (K:Nat→Nat) (h:AH) (k:Ky):Hy n0 K h [.int .i64 k.1,.str k.2.1,.str k.2.2,.str [],.nilsl,.int .i64 0,.bool false,.int .i64 0,.int .i64 0,.nilsl,.nilsl,.int .i64 0] (newH k) :=
 ⟨.nilsl,.nilsl,.nilsl,rfl,⟨.inl ⟨rfl,rfl⟩,Nat.zero_le _⟩,⟨.inl ⟨rfl,rfl⟩,Nat.zero_le _⟩,Nat.zero_le _,Oz.nil _ _ _,(fun a ha=>by cases ha),Nat.zero_le _⟩
theorem modify_set {α:Type} {l:List α} {i:Nat} {x:α} (h:l[i]? = some x) (f:α→α):l.modify i f=l.set i (f x):=by
 refine List.ext_getElem? fun j=>?_
 rw [List.getElem?_modify,List.getElem?_set]
 by_cases e:i=j
 ·subst e
  rw [if_pos rfl,if_pos (List.getElem?_eq_some_iff.1 h).1,h]
  simp
 ·rw [if_neg e]
  simp [e]
section
variable {S : Sums}
theorem setC (hS:Nf S) {n0:Nat} {K:Nat→Nat} {h:AH} {p:Nat} {l:List Hd} {s:List Mt} {cr:List AV} {r:Rc} (k:Ky) (hz:Zs n0 K h p l s) (hr:Ra K h cr r) (hl:l.length<1000000) (hp:∀x∈l,x.past.length<1000000):RnC Tryz.prog S 70 [.ptr p 0,.agg [.int .i64 k.1,.str k.2.1,.str k.2.2],.agg cr] h fun v h'=>v=.tup []∧∃K',Zs n0 K' h' p (setF l k r) s∧Zg K h K' h':=by
 have hr0:=hr
 obtain ⟨wv,wd,rfl,hwv,hwd,hrp⟩:=hr
 have owv:=hwv.ln.2.2.2
 have owd:=hwd.ln.2.2
 have mwv:=oneM owv
 have mwd:=oneM owd
 refine RnC.enter' Tryz.f70 _ 59 [] (hS.nb _ _ _ (by simp)) bd70 Tryz.func70 rfl rfl rfl ?_
 simp -dsimp only [go_sem,owv,owd,mwv,mwd]
 generalize hg:((h.new (.cells [.int .i64 k.1,.str k.2.1,.str k.2.2] true false)).new (.cells [.str r.path,wv,.int .i64 r.own,.bool r.gone,.int .i64 r.size,.int .i64 r.len,wd] true false))=g1
 have n1:g1.nx=h.nx+2:=by rw [←hg];rfl
 have f1:Fr h g1:=by rw [←hg];exact (Fr.new _ _).news _
 have q1:g1.get h.nx=some (.cells [.int .i64 k.1,.str k.2.1,.str k.2.2] true false):=by rw [←hg];exact (AH.get_new_ne (by simp [AH.new])).trans (AH.get_new_eq rfl)
 have q2:g1.get (h.nx+1)=some (.cells [.str r.path,wv,.int .i64 r.own,.bool r.gone,.int .i64 r.size,.int .i64 r.len,wd] true false):=by rw [←hg];exact AH.get_new_eq rfl
 clear hg
 have hz1:=hz.fr f1
 try simp -dsimp only [go_sem,q1]
 refine callK_of (findC hS.toMk k hz1.vs.vw) ?_
 rintro v g2 ⟨rfl,f2⟩
 have n2:=f2.nx
 have hz2:=hz1.fr f2
 have f12:=f1.trans f2
 have u1:=(f2.get _ (by omega)).trans q1
 have u2:=(f2.get _ (by omega)).trans q2
 have hile:=findK_le l k
 have hpn:=hz2.pn
 have hph:=hz.pn.2.1
 obtain ⟨hv,sv,hob,hoy,hoz,hsv⟩:=hz2.ob
 obtain ⟨ohv,shv⟩:=hoy.one
 have mhv:=oneM ohv
 have osv:=hoz.one.1
 have msv:=oneM osv
 have hzi:=fun id o n c hv=>hoy.id eyH (id:=id) (o:=o) (n:=n) (c:=c) hv
 cases his:(findK l k).2
 case false =>
  obtain ⟨css,a2,a3,a4,a5,a6⟩:=id hoy
  have hcl:css.flatten.length=l.length*12:=by rw [flz (oy_len eyH a3 a4),a3]
  simp -dsimp only [go_sem,his]
  refine syDraw.keepN 19 (fun j=>j=p∨j=h.nx) (by kernel_rfl) (by kernel_rfl) rfl ?_
  have fI:Fr g2 (({ tr:=g2.tr,nx:=g2.nx+20 }:AH).put (g2.nx+14) (.cells [.int .i64 k.1,.str k.2.1,.str k.2.2,.str [],.nilsl,.int .i64 0,.bool false,.int .i64 0,.int .i64 0,.nilsl,.nilsl,.int .i64 0] true false)):=((Fr.refl g2).more _ (by omega)).put _ (by omega)
  have jI:(({ tr:=g2.tr,nx:=g2.nx+20 }:AH).put (g2.nx+14) (.cells [.int .i64 k.1,.str k.2.1,.str k.2.2,.str [],.nilsl,.int .i64 0,.bool false,.int .i64 0,.int .i64 0,.nilsl,.nilsl,.int .i64 0] true false)).get (g2.nx+14)=some (.cells [.int .i64 k.1,.str k.2.1,.str k.2.2,.str [],.nilsl,.int .i64 0,.bool false,.int .i64 0,.int .i64 0,.nilsl,.nilsl,.int .i64 0] true false):=AH.get_put_eq rfl
  simp -dsimp (disch:=repeat first|rw [nxn]|rw [nxp]|omega) only [go_sem,hob,u1,ohv,mhv,shv,osv,msv,bldH,true_and,true_or,or_true,implies_true,svi,svb,svs,svp]
  refine callK_of (insHdC hS.toNi (a2.fr fI) hcl hile (by omega) jI rfl (fun id o n c hv=>by have:=(hzi id o n c hv).2.1;omega) (oy_one eyH a3 a4) rfl (by show n0≤g2.nx+20;omega)) ?_
  rintro v g8 ⟨id,rfl,b2,b3,b4,b5⟩
  have b3':g2.nx+20≤id:=b3
  have b4':g2.nx+20≤g8.nx:=b4
  have hid8:id<g8.nx:=by
   rcases b2 with ⟨hh,_⟩ | ⟨id',n',c',tx',hh,_,h3,_⟩
   ·cases hh
   ·cases hh;exact h3
  have hout:∀j,j<g2.nx→K j≠1→g8.get j=g2.get j:=fun j hj hk=>(b5 j (by show j<g2.nx+20;omega) fun id' o n c hv hh=>by subst hh;exact hk (hzi _ _ _ _ hv).2.2.1).trans (AH.get_put_ne (by omega))
  have k0:K h.nx≠1:=by rw [hz.top _ (Nat.le_refl _)];decide
  have k1:K (h.nx+1)≠1:=by rw [hz.top _ (by omega)];decide
  refine ⟨fun j hj=>(b5 j (by show j<g2.nx+20;rcases hj with rfl | rfl <;> omega) fun id' o n c hv hh=>by have:=(hzi _ _ _ _ hv).2.2.1;rcases hj with rfl | rfl <;> (subst hh;omega)).trans (AH.get_put_ne (by rcases hj with rfl | rfl <;> omega)),?_⟩
  have hK2:∀j,j<g2.nx→(fun j=>if j=id then 1 else K j) j=K j:=fun j hj=>if_neg (by omega)
  have hK3:(fun j=>if j=id then 1 else K j) id=1:=if_pos rfl
  have hK4:∀j,id<j→(fun j=>if j=id then 1 else K j) j=K j:=fun j hj=>if_neg (by omega)
  generalize (fun j=>if j=id then 1 else K j)=K1 at hK2 hK3 hK4
  have w1:=(hout p (by omega) (by omega)).trans hob
  have w5:=(hout (h.nx+1) (by omega) k1).trans u2
  have hoy8:=Oy.ins eyH (E:=Hy) (h:=g2) (K:=K) (K':=K1) (x:=newH k) b2 (fun id' o n c hh=>by cases hh;rfl) (by omega) a3 a4 a6 hile rfl (hy_new n0 K g2 k) (by omega) (fun j hj hk=>hout j hj (by omega)) hK2 hK3
  have hoz8:Oz 2 Ma n0 K1 (g8.put p (.cells [.sl id 0 (l.length+1) 12 none,sv] true false)) sv s:=(hoz.col elMa (fun j hj hk=>(hK2 j hj).trans hk) fun id' o n c hv=>by
   have:=(oz_blk hoz (a:=id') (by rw [hv];rfl)).2
   rw [hK2 _ this,hsv _ (by rw [hv];rfl)]
   decide).keep elMa (⟨by show g2.nx≤g8.nx;omega,fun j hj hk=>by
   rw [hK2 j hj] at hk
   exact (AH.get_put_ne (fun hh=>by subst hh;omega)).trans (hout j hj (by omega))⟩) fun id' o n c hv=>by
   have h1:=(oz_blk hoz (a:=id') (by rw [hv];rfl)).2
   have h2:=hsv id' (by rw [hv];rfl)
   exact (AH.get_put_ne (fun hh=>by subst hh;omega)).trans (hout _ h1 (by omega))
  have hoy9:Oy 12 10 Hy n0 K1 (g8.put p (.cells [.sl id 0 (l.length+1) 12 none,sv] true false)) (.sl id 0 (l.length+1) 12 none) (l.take (findK l k).1++newH k::l.drop (findK l k).1):=hoy8.kc eyH ⟨Nat.le_refl _,fun j hj hk=>AH.get_put_ne (fun hh=>by subst hh;rw [hK2 _ (by omega)] at hk;omega)⟩
  have zg:Zg K h K1 (g8.put p (.cells [.sl id 0 (l.length+1) 12 none,sv] true false)):=⟨⟨by show h.nx≤g8.nx;omega,fun j hj hk=>(AH.get_put_ne (fun hh=>by subst hh;omega)).trans ((hout j (by omega) (by omega)).trans (f12.get j hj))⟩,fun j hj=>hK2 j (by omega)⟩
  have top9:∀j,g8.nx≤j→K1 j=0:=fun j hj=>(hK4 j (by omega)).trans (hz.top j (by omega))
  have kp9:K1 p=3:=(hK2 p (by omega)).trans hpn.2.2
  have hsv9:∀a,blk sv=some a→K1 a=2:=fun a ha=>(hK2 a (oz_blk hoz ha).2).trans (hsv a ha)
  have rl:roomF l k=l.take (findK l k).1++newH k::l.drop (findK l k).1:=by unfold roomF;rw [his];rfl
  have hx:(l.take (findK l k).1++newH k::l.drop (findK l k).1)[(findK l k).1]? = some (newH k):=by
   rw [List.getElem?_append_right (by rw [List.length_take];omega),List.length_take,Nat.min_eq_left hile,Nat.sub_self]
   rfl
  have hlt:(findK l k).1<l.length+1:=by omega
  have w15:(g8.put p (.cells [.sl id 0 (l.length+1) 12 none,sv] true false)).get (h.nx+1)=_:=(AH.get_put_ne (by omega)).trans w5
  have w11:(g8.put p (.cells [.sl id 0 (l.length+1) 12 none,sv] true false)).get p=_:=AH.get_put_eq rfl
  have n9:(g8.put p (.cells [.sl id 0 (l.length+1) 12 none,sv] true false)).nx=g8.nx:=rfl
  simp -dsimp (disch:=repeat first|rw [nxn]|rw [nxp]|omega) only [go_sem,w1,osv,msv,hlt,true_and,true_or,or_true,implies_true,svi,svb,svs,svp]
  generalize hLT:l.take (findK l k).1++newH k::l.drop (findK l k).1=LT at *
  have hLTl:LT.length=l.length+1:=by rw [←hLT];simp;omega
  have hoyT:Oy 12 10 Hy n0 K1 (g8.put p (.cells [.sl id 0 (l.length+1) 12 none,sv] true false)) (.sl id 0 LT.length 12 none) LT:=by rw [hLTl];exact hoy9
  have hozT:=hoz8
  rw [←hLTl] at hoy9 w11 w15 n9 hozT zg hoyT ⊢
  generalize hgT:g8.put p (.cells [.sl id 0 LT.length 12 none,sv] true false)=gT at *
  have hpT:=w11
  obtain ⟨x,hxT⟩:∃x,LT[(findK l k).1]? = some x:=⟨_,hx⟩
  have topT:∀j,gT.nx≤j→K1 j=0:=fun j hj=>top9 j (by omega)
  have hrT:Ra K1 gT [.str r.path,wv,.int .i64 r.own,.bool r.gone,.int .i64 r.size,.int .i64 r.len,wd] r:=zg.ra hr0
  have nT:g2.nx≤gT.nx:=by omega
  have hLT6:LT.length≤1000000:=by omega
  have kh1:K1 (h.nx+1)=0:=(hK2 _ (by omega)).trans (hz.top _ (by omega))
  have hpa:∀x∈LT,x.past.length<1000000:=fun x hx=>by
   rw [←hLT] at hx
   rcases List.mem_append.1 hx with hh | hh
   ·exact hp x (List.mem_of_mem_take hh)
   ·rcases List.mem_cons.1 hh with rfl | hh
    ·exact Nat.zero_lt_succ _
    ·exact hp x (List.mem_of_mem_drop hh)
  obtain ⟨_,_,css',ce,A,B,hvv,z2,z3,z4,z5,z6,zH,a3',a4',a6',hc',hid0,hid1,hid2⟩:=hoyT.at eyH hxT
  cases hvv
  obtain ⟨nv,nd,pv,rfl,e1,e2,e3,e4,e5,e6⟩:=zH
  have ht10:css'.flatten[(findK l k).1*12+10]? = some pv:=by
   rw [z4,←z5,List.append_assoc,List.getElem?_append_right (by omega),Nat.add_sub_cancel_left]
   rfl
  obtain ⟨opv,spv⟩:=e4.one
  have mpv:=oneM opv
  generalize hi:(findK l k).1=i at *
  generalize hT1:Go.Abs.Tr.set _ _ _=T1
  have T1_5:T1.get 5=some (.ptr (h.nx+1) 0):=by rw [←hT1];simp only [go_sem]
  have T1_8:T1.get 8=some (.ptr id (i*12)):=by rw [←hT1];simp only [go_sem]
  clear hT1
  obtain ⟨KB,kb0,kb1,kb2⟩:∃KB:Nat→Nat,(∀j,j<gT.nx→KB j=K1 j)∧(∀j,gT.nx≤j→j<gT.nx+18→KB j=9)∧∀j,gT.nx+18≤j→KB j=0:=⟨fun j=>if gT.nx≤j∧j<gT.nx+18 then 9 else K1 j,fun j hj=>if_neg (by omega),fun j h1 h2=>if_pos ⟨h1,h2⟩,fun j hj=>(if_neg (by omega)).trans (topT j (by omega))⟩
  have hrB:Ra KB gT [.str r.path,wv,.int .i64 r.own,.bool r.gone,.int .i64 r.size,.int .i64 r.len,wd] r:=hrT.col fun j hj hk=>(kb0 j hj).trans hk
  have e4B:Oz 7 Ra n0 KB gT pv x.past:=e4.col elRa (fun j hj hk=>(kb0 j hj).trans hk) fun id' o n c hv=>by
   have:=oz_blk e4 (a:=id') (by rw [hv];rfl)
   rw [kb0 _ this.2,e5 _ (by rw [hv];rfl)]
   decide
  refine syDraw.keepN 14 (fun j=>j=h.nx+1∨j=id) (by kernel_rfl) (by kernel_rfl) rfl ?_
  have fA:Fr gT { tr:=gT.tr,nx:=gT.nx+18 }:=(Fr.refl gT).more _ (by omega)
  simp -dsimp only [go_sem,T1_5,T1_8,w15,owv,owd,mwv,mwd,true_and,true_or,or_true,implies_true,svi,svb,svs,svp,hr0.sv]
  refine callK_of (copyC hS.toMr (hrB.fr fA) fun j hj=>kb2 j hj) ?_
  rintro v gU ⟨⟨c1,rfl,hc1⟩,fU⟩
  have nU:gT.nx+18≤gU.nx:=fU.nx
  have hc10:=hc1
  obtain ⟨v1,d1,rfl,hv1,hd1,_⟩:=hc1
  have ov1:=hv1.ln.2.2.2
  have od1:=hd1.ln.2.2
  have mv1:=oneM ov1
  have md1:=oneM od1
  have fTU:=fA.trans fU
  refine ⟨fun j hj=>fU.get j (by show j<gT.nx+18;rcases hj with rfl | rfl <;> omega),?_⟩
  have y2:=(fTU.get _ hid1).trans z2
  have w16:=(fTU.get _ (by omega)).trans w15
  simp -dsimp only [go_sem,T1_5,T1_8,w16,y2,z6,ht10,opv,mpv,spv,owv,owd,mwv,mwd,ov1,od1,true_and,true_or,or_true,implies_true,svi,svb,svs,svp,hr0.sv]
  refine callK_of (copyC hS.toMr ((hrB.fr fTU)) fun j hj=>kb2 j (by omega)) ?_
  rintro v gV ⟨⟨c2,rfl,hc2⟩,fV⟩
  have nV:=fV.nx
  have hc20:=hc2
  obtain ⟨v2,d2,rfl,hv2,hd2,_⟩:=hc2
  have ov2:=hv2.ln.2.2.2
  have od2:=hd2.ln.2.2
  refine ⟨fun j hj=>fV.get j (by rcases hj with rfl | rfl <;> omega),?_⟩
  have fTV:=fTU.trans fV
  have fB:Fr gT (gV.put (gT.nx+10) (.cells [.str r.path,v2,.int .i64 r.own,.bool r.gone,.int .i64 r.size,.int .i64 r.len,d2] true false)):=fTV.put _ (by omega)
  have gkB:Gk KB gV (gV.put (gT.nx+10) (.cells [.str r.path,v2,.int .i64 r.own,.bool r.gone,.int .i64 r.size,.int .i64 r.len,d2] true false)):=(Gk.refl _ _).put (.inl (by rw [kb1 _ (by omega) (by omega)];decide)) _
  have hpx:=hpa x (List.mem_of_getElem? hxT)
  have hgB:(gV.put (gT.nx+10) (.cells [.str r.path,v2,.int .i64 r.own,.bool r.gone,.int .i64 r.size,.int .i64 r.len,d2] true false)).get (gT.nx+10)=_:=AH.get_put_eq rfl
  have nB:(gV.put (gT.nx+10) (.cells [.str r.path,v2,.int .i64 r.own,.bool r.gone,.int .i64 r.size,.int .i64 r.len,d2] true false)).nx=gV.nx:=rfl
  obtain ⟨idp,gC,ap,ip1,ip2,ip3,ip4,ip5⟩:=Oz.app (P:=Tryz.prog) elRa (e4B.fr elRa fB) Tryz.underlying44 aiRc (hc20.gk gkB) hgB (by omega) (by omega) (by omega)
  have hin:∀j,j<gT.nx→blk pv≠some j→gC.get j=gT.get j:=fun j hj hh=>(ip4 j (by omega) fun id' o n c hv he=>hh (by rw [hv,he];rfl)).trans (fB.get j hj)
  have hpvn:∀j,K1 j≠5→blk pv≠some j:=fun j hk hh=>hk (e5 j hh)
  have k15:K1 (h.nx+1)≠5:=by rw [kh1];decide
  simp -dsimp only [go_sem,T1_5,T1_8,ap,ov1,od1,ov2,od2,cells1 ov1,cells1 od1,cells1 ov2,cells1 od2,opv,spv,true_and,true_or,or_true,implies_true,svi,svb,svs,svp]
  refine ⟨fun j hj=>(hin j (by rcases hj with rfl | rfl <;> omega) (hpvn _ (by rcases hj with rfl | rfl;exact k15;omega))).trans (fTV.get j (by rcases hj with rfl | rfl <;> omega)).symm,?_⟩
  have y3:=(hin id hid1 (hpvn _ (by omega))).trans z2
  have hr12:=oy_len eyH a3' a4'
  have F1:=flz_put (k:=3) (vs:=[.str r.path,v1,.int .i64 r.own,.bool r.gone,.int .i64 r.size,.int .i64 r.len,d1]) hr12 z3 (show 3+7≤12 by decide)
  generalize hC1:css'.set i (putCells [.int .i64 x.dev,.str x.folder,.str x.path,.str x.now.path,nv,.int .i64 x.now.own,.bool x.now.gone,.int .i64 x.now.size,.int .i64 x.now.len,nd,pv,.int .i64 (x.start:Nat)] 3 [.str r.path,v1,.int .i64 r.own,.bool r.gone,.int .i64 r.size,.int .i64 r.len,d1])=css1 at F1
  have F1':List.take (i*12+3) css'.flatten++[.str r.path,v1,.int .i64 r.own,.bool r.gone,.int .i64 r.size,.int .i64 r.len,d1]++List.drop (i*12+3+7) css'.flatten=css1.flatten:=F1
  have hil':=(List.getElem?_eq_some_iff.1 z3).1
  have hr121:∀cs∈css1,cs.length=12:=fun cs hcs=>by
   rw [←hC1] at hcs
   rcases List.mem_or_eq_of_mem_set hcs with hh | rfl
   ·exact hr12 _ hh
   ·rfl
  have hci1:css1[i]? = some (putCells [.int .i64 x.dev,.str x.folder,.str x.path,.str x.now.path,nv,.int .i64 x.now.own,.bool x.now.gone,.int .i64 x.now.size,.int .i64 x.now.len,nd,pv,.int .i64 (x.start:Nat)] 3 [.str r.path,v1,.int .i64 r.own,.bool r.gone,.int .i64 r.size,.int .i64 r.len,d1]):=by rw [←hC1,List.getElem?_set,if_pos rfl,if_pos hil']
  have F2:=flz_put (k:=10) (vs:=[.sl idp 0 (x.past.length+1) 7 none]) hr121 hci1 (show 10+1≤12 by decide)
  rw [←hC1,List.set_set,hC1] at F2
  have hl1:i*12+10+1≤css1.flatten.length:=by rw [flz hr121,←hC1,List.length_set];rw [flz hr12] at z6;omega
  have hl0:i*12+3+7≤css'.flatten.length:=by omega
  simp -dsimp (disch:=repeat first|rw [nxn]|rw [nxp]|omega) only [go_sem,T1_5,T1_8,y3,hl0,F1',hl1,mv1,md1,ov1,od1,ov2,od2,true_and,true_or,or_true,implies_true,svi,svb,svs,svp]
  have KB0:∀j,j<gT.nx→(fun j=>if j=idp then 5 else KB j) j=K1 j:=fun j hj=>(if_neg (by omega)).trans (kb0 j hj)
  have KB1:(fun j=>if j=idp then 5 else KB j) idp=5:=if_pos rfl
  have KB2:∀j,gC.nx≤j→(fun j=>if j=idp then 5 else KB j) j=0:=fun j hj=>(if_neg (by omega)).trans (kb2 j (by omega))
  have KB3:∀j,j<gV.nx→(fun j=>if j=idp then 5 else KB j) j=KB j:=fun j hj=>if_neg (by omega)
  generalize (fun j=>if j=idp then 5 else KB j)=K2 at KB0 KB1 KB2 KB3
  have hpv5:=ip5 K2 (fun j hj=>KB3 j (by omega)) (by rw [KB1];decide)
  have F2':List.take (i*12+10) css1.flatten++[.sl idp 0 (x.past.length+1) 7 none]++List.drop (i*12+10+1) css1.flatten=_:=F2
  rw [F2']
  generalize hgF:(gC.put id (.cells css1.flatten true false)).put id (.cells (css'.set i (putCells (putCells [.int .i64 x.dev,.str x.folder,.str x.path,.str x.now.path,nv,.int .i64 x.now.own,.bool x.now.gone,.int .i64 x.now.size,.int .i64 x.now.len,nd,pv,.int .i64 (x.start:Nat)] 3 [.str r.path,v1,.int .i64 r.own,.bool r.gone,.int .i64 r.size,.int .i64 r.len,d1]) 10 [.sl idp 0 (x.past.length+1) 7 none])).flatten true false)=gF
  have nF:gF.nx=gC.nx:=by rw [←hgF];rfl
  have gFid:gF.get id=some (.cells (css'.set i (putCells (putCells [.int .i64 x.dev,.str x.folder,.str x.path,.str x.now.path,nv,.int .i64 x.now.own,.bool x.now.gone,.int .i64 x.now.size,.int .i64 x.now.len,nd,pv,.int .i64 (x.start:Nat)] 3 [.str r.path,v1,.int .i64 r.own,.bool r.gone,.int .i64 r.size,.int .i64 r.len,d1]) 10 [.sl idp 0 (x.past.length+1) 7 none])).flatten true false):=by rw [←hgF];exact AH.get_put_eq rfl
  have gFne:∀j,j≠id→gF.get j=gC.get j:=fun j hj=>by rw [←hgF];exact (AH.get_put_ne hj).trans (AH.get_put_ne hj)
  clear hgF
  have gFT:∀j,j<gT.nx→j≠id→blk pv≠some j→gF.get j=gT.get j:=fun j hj h1 h2=>(gFne j h1).trans (hin j hj h2)
  have gkV:Gk K2 gV gF:=⟨by omega,fun j hj hk=>by
   rw [KB3 j hj] at hk
   have hid:j≠id:=fun hh=>by subst hh;rw [kb0 _ hid1] at hk;omega
   have h10:j≠gT.nx+10:=fun hh=>by subst hh;rw [kb1 _ (by omega) (by omega)] at hk;omega
   refine (gFne j hid).trans ((ip4 j (by omega) fun id' o n c hv he=>?_).trans (AH.get_put_ne h10))
   subst he
   have:=oz_blk e4 (a:=j) (by rw [hv];rfl)
   rw [kb0 _ this.2,e5 _ (by rw [hv];rfl)] at hk
   omega⟩
  have hyF:Hy n0 K2 gF (putCells (putCells [.int .i64 x.dev,.str x.folder,.str x.path,.str x.now.path,nv,.int .i64 x.now.own,.bool x.now.gone,.int .i64 x.now.size,.int .i64 x.now.len,nd,pv,.int .i64 (x.start:Nat)] 3 [.str r.path,v1,.int .i64 r.own,.bool r.gone,.int .i64 r.size,.int .i64 r.len,d1]) 10 [.sl idp 0 (x.past.length+1) 7 none]) (nowX x r):=by
   refine ⟨v1,d1,_,rfl,?_,?_,hrp,?_,fun a ha=>by cases ha;exact KB1,?_⟩
   ·exact ((hv1.fr fV).col fun j hj hk=>(KB3 j hj).trans hk).gk gkV
   ·exact ((hd1.fr fV).col fun j hj hk=>(KB3 j hj).trans hk).gk gkV
   ·have hlen:(nowX x r).past.length=x.past.length+1:=by unfold nowX;simp
    exact hpv5.keep elRa ⟨by omega,fun j hj hk=>gFne j (fun hh=>by subst hh;rw [KB0 _ hid1] at hk;omega)⟩ fun id' o n c hv=>by cases hv;exact gFne _ (by omega)
   ·unfold nowX
    simp
    omega
  have hoyF:=hoyT.chg2 eyH (h':=gF) (K':=K2) rfl a3' a4' a6' hxT z3 gFid (by omega) (fun j hj _ h1 h2=>gFT j hj h1 h2) KB0 (.inr fun a ha=>by cases ha;omega) hyF
  have hset:setF l k r=LT.set i (nowX x r):=by
   unfold setF
   rw [rl,hi]
   exact modify_set hxT _
  have hsvne:∀a,blk sv=some a→a<gT.nx∧a≠id∧blk pv≠some a:=fun a ha=>⟨(oz_blk hozT ha).2,fun hh=>by have:=hsv9 a ha;rw [hh] at this;omega,hpvn a (by rw [hsv9 a ha];decide)⟩
  have hozF:Oz 2 Ma n0 K2 gF sv s:=(hozT.col elMa (fun j hj hk=>(KB0 j hj).trans hk) fun id' o n c hv=>by
   rw [KB0 _ (hsvne id' (by rw [hv];rfl)).1,hsv9 id' (by rw [hv];rfl)]
   decide).keep elMa ⟨by omega,fun j hj hk=>by
   rw [KB0 j hj] at hk
   exact gFT j hj (fun hh=>by subst hh;omega) (hpvn j (by omega))⟩ fun id' o n c hv=>by
   obtain ⟨h1,h2,h3⟩:=hsvne id' (by rw [hv];rfl)
   exact gFT _ h1 h2 h3
  refine ⟨K2,⟨fun j hj=>KB2 j (by omega),⟨_,sv,(gFT p (by omega) (fun hh=>by rw [hh] at kp9;omega) (hpvn p (by omega))).trans hpT,by rw [hset];exact hoyF,hozF,fun a ha=>(KB0 a (hsvne a ha).1).trans (hsv9 a ha)⟩,⟨hpn.1,by omega,(KB0 p (by omega)).trans kp9⟩,by rw [hset,List.length_set];exact ⟨hLT6,hz.ln.2⟩⟩,zg.trans ⟨⟨by omega,fun j hj hk=>gFT j hj (fun hh=>by subst hh;omega) (hpvn j (by omega))⟩,fun j hj=>KB0 j hj⟩⟩
 case true =>
  have rl:roomF l k=l:=by unfold roomF;rw [his];rfl
  obtain ⟨x,hxT,hxk⟩:=findK_is his
  have hlt:=(List.getElem?_eq_some_iff.1 hxT).1
  obtain ⟨id,cT,_,_,_,_,rfl,_⟩:=hoy.at eyH hxT
  have hoyT:=hoy
  have hozT:=hoz
  have hpT:=hob
  have zg:Zg K h K g2:=⟨f12.gk K,fun _ _=>rfl⟩
  have topT:∀j,g2.nx≤j→K j=0:=fun j hj=>hz.top j (by omega)
  have kp9:=hpn.2.2
  have hsv9:=hsv
  have hrT:Ra K g2 [.str r.path,wv,.int .i64 r.own,.bool r.gone,.int .i64 r.size,.int .i64 r.len,wd] r:=hr0.fr f12
  have nT:g2.nx≤g2.nx:=Nat.le_refl _
  have hLT6:l.length≤1000000:=by omega
  have kh1:K (h.nx+1)=0:=hz.top _ (by omega)
  have hpa:=hp
  have w15:=u2
  simp -dsimp (disch:=repeat first|rw [nxn]|rw [nxp]|omega) only [go_sem,his,hob,ohv,mhv,shv,osv,msv,hlt,true_and,true_or,or_true,implies_true,svi,svb,svs,svp]
  obtain ⟨_,_,css',ce,A,B,hvv,z2,z3,z4,z5,z6,zH,a3',a4',a6',hc',hid0,hid1,hid2⟩:=hoyT.at eyH hxT
  cases hvv
  obtain ⟨nv,nd,pv,rfl,e1,e2,e3,e4,e5,e6⟩:=zH
  have ht10:css'.flatten[(findK l k).1*12+10]? = some pv:=by
   rw [z4,←z5,List.append_assoc,List.getElem?_append_right (by omega),Nat.add_sub_cancel_left]
   rfl
  obtain ⟨opv,spv⟩:=e4.one
  have mpv:=oneM opv
  generalize hi:(findK l k).1=i at *
  generalize hT1:Go.Abs.Tr.set _ _ _=T1
  have T1_5:T1.get 5=some (.ptr (h.nx+1) 0):=by rw [←hT1];simp only [go_sem]
  have T1_8:T1.get 8=some (.ptr id (i*12)):=by rw [←hT1];simp only [go_sem]
  clear hT1
  obtain ⟨KB,kb0,kb1,kb2⟩:∃KB:Nat→Nat,(∀j,j<g2.nx→KB j=K j)∧(∀j,g2.nx≤j→j<g2.nx+18→KB j=9)∧∀j,g2.nx+18≤j→KB j=0:=⟨fun j=>if g2.nx≤j∧j<g2.nx+18 then 9 else K j,fun j hj=>if_neg (by omega),fun j h1 h2=>if_pos ⟨h1,h2⟩,fun j hj=>(if_neg (by omega)).trans (topT j (by omega))⟩
  have hrB:Ra KB g2 [.str r.path,wv,.int .i64 r.own,.bool r.gone,.int .i64 r.size,.int .i64 r.len,wd] r:=hrT.col fun j hj hk=>(kb0 j hj).trans hk
  have e4B:Oz 7 Ra n0 KB g2 pv x.past:=e4.col elRa (fun j hj hk=>(kb0 j hj).trans hk) fun id' o n c hv=>by
   have:=oz_blk e4 (a:=id') (by rw [hv];rfl)
   rw [kb0 _ this.2,e5 _ (by rw [hv];rfl)]
   decide
  refine syDraw.keepN 14 (fun j=>j=h.nx+1∨j=id) (by kernel_rfl) (by kernel_rfl) rfl ?_
  have fA:Fr g2 { tr:=g2.tr,nx:=g2.nx+18 }:=(Fr.refl g2).more _ (by omega)
  simp -dsimp only [go_sem,T1_5,T1_8,w15,owv,owd,mwv,mwd,true_and,true_or,or_true,implies_true,svi,svb,svs,svp,hr0.sv]
  refine callK_of (copyC hS.toMr (hrB.fr fA) fun j hj=>kb2 j hj) ?_
  rintro v gU ⟨⟨c1,rfl,hc1⟩,fU⟩
  have nU:g2.nx+18≤gU.nx:=fU.nx
  have hc10:=hc1
  obtain ⟨v1,d1,rfl,hv1,hd1,_⟩:=hc1
  have ov1:=hv1.ln.2.2.2
  have od1:=hd1.ln.2.2
  have mv1:=oneM ov1
  have md1:=oneM od1
  have fTU:=fA.trans fU
  refine ⟨fun j hj=>fU.get j (by show j<g2.nx+18;rcases hj with rfl | rfl <;> omega),?_⟩
  have y2:=(fTU.get _ hid1).trans z2
  have w16:=(fTU.get _ (by omega)).trans w15
  simp -dsimp only [go_sem,T1_5,T1_8,w16,y2,z6,ht10,opv,mpv,spv,owv,owd,mwv,mwd,ov1,od1,true_and,true_or,or_true,implies_true,svi,svb,svs,svp,hr0.sv]
  refine callK_of (copyC hS.toMr ((hrB.fr fTU)) fun j hj=>kb2 j (by omega)) ?_
  rintro v gV ⟨⟨c2,rfl,hc2⟩,fV⟩
  have nV:=fV.nx
  have hc20:=hc2
  obtain ⟨v2,d2,rfl,hv2,hd2,_⟩:=hc2
  have ov2:=hv2.ln.2.2.2
  have od2:=hd2.ln.2.2
  refine ⟨fun j hj=>fV.get j (by rcases hj with rfl | rfl <;> omega),?_⟩
  have fTV:=fTU.trans fV
  have fB:Fr g2 (gV.put (g2.nx+10) (.cells [.str r.path,v2,.int .i64 r.own,.bool r.gone,.int .i64 r.size,.int .i64 r.len,d2] true false)):=fTV.put _ (by omega)
  have gkB:Gk KB gV (gV.put (g2.nx+10) (.cells [.str r.path,v2,.int .i64 r.own,.bool r.gone,.int .i64 r.size,.int .i64 r.len,d2] true false)):=(Gk.refl _ _).put (.inl (by rw [kb1 _ (by omega) (by omega)];decide)) _
  have hpx:=hpa x (List.mem_of_getElem? hxT)
  have hgB:(gV.put (g2.nx+10) (.cells [.str r.path,v2,.int .i64 r.own,.bool r.gone,.int .i64 r.size,.int .i64 r.len,d2] true false)).get (g2.nx+10)=_:=AH.get_put_eq rfl
  have nB:(gV.put (g2.nx+10) (.cells [.str r.path,v2,.int .i64 r.own,.bool r.gone,.int .i64 r.size,.int .i64 r.len,d2] true false)).nx=gV.nx:=rfl
  obtain ⟨idp,gC,ap,ip1,ip2,ip3,ip4,ip5⟩:=Oz.app (P:=Tryz.prog) elRa (e4B.fr elRa fB) Tryz.underlying44 aiRc (hc20.gk gkB) hgB (by omega) (by omega) (by omega)
  have hin:∀j,j<g2.nx→blk pv≠some j→gC.get j=g2.get j:=fun j hj hh=>(ip4 j (by omega) fun id' o n c hv he=>hh (by rw [hv,he];rfl)).trans (fB.get j hj)
  have hpvn:∀j,K j≠5→blk pv≠some j:=fun j hk hh=>hk (e5 j hh)
  have k15:K (h.nx+1)≠5:=by rw [kh1];decide
  simp -dsimp only [go_sem,T1_5,T1_8,ap,ov1,od1,ov2,od2,cells1 ov1,cells1 od1,cells1 ov2,cells1 od2,opv,spv,true_and,true_or,or_true,implies_true,svi,svb,svs,svp]
  refine ⟨fun j hj=>(hin j (by rcases hj with rfl | rfl <;> omega) (hpvn _ (by rcases hj with rfl | rfl;exact k15;omega))).trans (fTV.get j (by rcases hj with rfl | rfl <;> omega)).symm,?_⟩
  have y3:=(hin id hid1 (hpvn _ (by omega))).trans z2
  have hr12:=oy_len eyH a3' a4'
  have F1:=flz_put (k:=3) (vs:=[.str r.path,v1,.int .i64 r.own,.bool r.gone,.int .i64 r.size,.int .i64 r.len,d1]) hr12 z3 (show 3+7≤12 by decide)
  generalize hC1:css'.set i (putCells [.int .i64 x.dev,.str x.folder,.str x.path,.str x.now.path,nv,.int .i64 x.now.own,.bool x.now.gone,.int .i64 x.now.size,.int .i64 x.now.len,nd,pv,.int .i64 (x.start:Nat)] 3 [.str r.path,v1,.int .i64 r.own,.bool r.gone,.int .i64 r.size,.int .i64 r.len,d1])=css1 at F1
  have F1':List.take (i*12+3) css'.flatten++[.str r.path,v1,.int .i64 r.own,.bool r.gone,.int .i64 r.size,.int .i64 r.len,d1]++List.drop (i*12+3+7) css'.flatten=css1.flatten:=F1
  have hil':=(List.getElem?_eq_some_iff.1 z3).1
  have hr121:∀cs∈css1,cs.length=12:=fun cs hcs=>by
   rw [←hC1] at hcs
   rcases List.mem_or_eq_of_mem_set hcs with hh | rfl
   ·exact hr12 _ hh
   ·rfl
  have hci1:css1[i]? = some (putCells [.int .i64 x.dev,.str x.folder,.str x.path,.str x.now.path,nv,.int .i64 x.now.own,.bool x.now.gone,.int .i64 x.now.size,.int .i64 x.now.len,nd,pv,.int .i64 (x.start:Nat)] 3 [.str r.path,v1,.int .i64 r.own,.bool r.gone,.int .i64 r.size,.int .i64 r.len,d1]):=by rw [←hC1,List.getElem?_set,if_pos rfl,if_pos hil']
  have F2:=flz_put (k:=10) (vs:=[.sl idp 0 (x.past.length+1) 7 none]) hr121 hci1 (show 10+1≤12 by decide)
  rw [←hC1,List.set_set,hC1] at F2
  have hl1:i*12+10+1≤css1.flatten.length:=by rw [flz hr121,←hC1,List.length_set];rw [flz hr12] at z6;omega
  have hl0:i*12+3+7≤css'.flatten.length:=by omega
  simp -dsimp only [go_sem,T1_5,T1_8,y3,hl0,F1',hl1,mv1,md1,ov1,od1,ov2,od2,true_and,true_or,or_true,implies_true,svi,svb,svs,svp]
  have KB0:∀j,j<g2.nx→(fun j=>if j=idp then 5 else KB j) j=K j:=fun j hj=>(if_neg (by omega)).trans (kb0 j hj)
  have KB1:(fun j=>if j=idp then 5 else KB j) idp=5:=if_pos rfl
  have KB2:∀j,gC.nx≤j→(fun j=>if j=idp then 5 else KB j) j=0:=fun j hj=>(if_neg (by omega)).trans (kb2 j (by omega))
  have KB3:∀j,j<gV.nx→(fun j=>if j=idp then 5 else KB j) j=KB j:=fun j hj=>if_neg (by omega)
  generalize (fun j=>if j=idp then 5 else KB j)=K2 at KB0 KB1 KB2 KB3
  have hpv5:=ip5 K2 (fun j hj=>KB3 j (by omega)) (by rw [KB1];decide)
  have F2':List.take (i*12+10) css1.flatten++[.sl idp 0 (x.past.length+1) 7 none]++List.drop (i*12+10+1) css1.flatten=_:=F2
  rw [F2']
  generalize hgF:(gC.put id (.cells css1.flatten true false)).put id (.cells (css'.set i (putCells (putCells [.int .i64 x.dev,.str x.folder,.str x.path,.str x.now.path,nv,.int .i64 x.now.own,.bool x.now.gone,.int .i64 x.now.size,.int .i64 x.now.len,nd,pv,.int .i64 (x.start:Nat)] 3 [.str r.path,v1,.int .i64 r.own,.bool r.gone,.int .i64 r.size,.int .i64 r.len,d1]) 10 [.sl idp 0 (x.past.length+1) 7 none])).flatten true false)=gF
  have nF:gF.nx=gC.nx:=by rw [←hgF];rfl
  have gFid:gF.get id=some (.cells (css'.set i (putCells (putCells [.int .i64 x.dev,.str x.folder,.str x.path,.str x.now.path,nv,.int .i64 x.now.own,.bool x.now.gone,.int .i64 x.now.size,.int .i64 x.now.len,nd,pv,.int .i64 (x.start:Nat)] 3 [.str r.path,v1,.int .i64 r.own,.bool r.gone,.int .i64 r.size,.int .i64 r.len,d1]) 10 [.sl idp 0 (x.past.length+1) 7 none])).flatten true false):=by rw [←hgF];exact AH.get_put_eq rfl
  have gFne:∀j,j≠id→gF.get j=gC.get j:=fun j hj=>by rw [←hgF];exact (AH.get_put_ne hj).trans (AH.get_put_ne hj)
  clear hgF
  have gFT:∀j,j<g2.nx→j≠id→blk pv≠some j→gF.get j=g2.get j:=fun j hj h1 h2=>(gFne j h1).trans (hin j hj h2)
  have gkV:Gk K2 gV gF:=⟨by omega,fun j hj hk=>by
   rw [KB3 j hj] at hk
   have hid:j≠id:=fun hh=>by subst hh;rw [kb0 _ hid1] at hk;omega
   have h10:j≠g2.nx+10:=fun hh=>by subst hh;rw [kb1 _ (by omega) (by omega)] at hk;omega
   refine (gFne j hid).trans ((ip4 j (by omega) fun id' o n c hv he=>?_).trans (AH.get_put_ne h10))
   subst he
   have:=oz_blk e4 (a:=j) (by rw [hv];rfl)
   rw [kb0 _ this.2,e5 _ (by rw [hv];rfl)] at hk
   omega⟩
  have hyF:Hy n0 K2 gF (putCells (putCells [.int .i64 x.dev,.str x.folder,.str x.path,.str x.now.path,nv,.int .i64 x.now.own,.bool x.now.gone,.int .i64 x.now.size,.int .i64 x.now.len,nd,pv,.int .i64 (x.start:Nat)] 3 [.str r.path,v1,.int .i64 r.own,.bool r.gone,.int .i64 r.size,.int .i64 r.len,d1]) 10 [.sl idp 0 (x.past.length+1) 7 none]) (nowX x r):=by
   refine ⟨v1,d1,_,rfl,?_,?_,hrp,?_,fun a ha=>by cases ha;exact KB1,?_⟩
   ·exact ((hv1.fr fV).col fun j hj hk=>(KB3 j hj).trans hk).gk gkV
   ·exact ((hd1.fr fV).col fun j hj hk=>(KB3 j hj).trans hk).gk gkV
   ·have hlen:(nowX x r).past.length=x.past.length+1:=by unfold nowX;simp
    exact hpv5.keep elRa ⟨by omega,fun j hj hk=>gFne j (fun hh=>by subst hh;rw [KB0 _ hid1] at hk;omega)⟩ fun id' o n c hv=>by cases hv;exact gFne _ (by omega)
   ·unfold nowX
    simp
    omega
  have hoyF:=hoyT.chg2 eyH (h':=gF) (K':=K2) rfl a3' a4' a6' hxT z3 gFid (by omega) (fun j hj _ h1 h2=>gFT j hj h1 h2) KB0 (.inr fun a ha=>by cases ha;omega) hyF
  have hset:setF l k r=l.set i (nowX x r):=by
   unfold setF
   rw [rl,hi]
   exact modify_set hxT _
  have hsvne:∀a,blk sv=some a→a<g2.nx∧a≠id∧blk pv≠some a:=fun a ha=>⟨(oz_blk hozT ha).2,fun hh=>by have:=hsv9 a ha;rw [hh] at this;omega,hpvn a (by rw [hsv9 a ha];decide)⟩
  have hozF:Oz 2 Ma n0 K2 gF sv s:=(hozT.col elMa (fun j hj hk=>(KB0 j hj).trans hk) fun id' o n c hv=>by
   rw [KB0 _ (hsvne id' (by rw [hv];rfl)).1,hsv9 id' (by rw [hv];rfl)]
   decide).keep elMa ⟨by omega,fun j hj hk=>by
   rw [KB0 j hj] at hk
   exact gFT j hj (fun hh=>by subst hh;omega) (hpvn j (by omega))⟩ fun id' o n c hv=>by
   obtain ⟨h1,h2,h3⟩:=hsvne id' (by rw [hv];rfl)
   exact gFT _ h1 h2 h3
  refine ⟨K2,⟨fun j hj=>KB2 j (by omega),⟨_,sv,(gFT p (by omega) (fun hh=>by rw [hh] at kp9;omega) (hpvn p (by omega))).trans hpT,by rw [hset];exact hoyF,hozF,fun a ha=>(KB0 a (hsvne a ha).1).trans (hsv9 a ha)⟩,⟨hpn.1,by omega,(KB0 p (by omega)).trans kp9⟩,by rw [hset,List.length_set];exact ⟨hLT6,hz.ln.2⟩⟩,zg.trans ⟨⟨by omega,fun j hj hk=>gFT j hj (fun hh=>by subst hh;omega) (hpvn j (by omega))⟩,fun j hj=>KB0 j hj⟩⟩
end
theorem Ma.sv {K:Nat→Nat} {h:AH} {cs:List AV} {x:Mt} (hx:Ma K h cs x):sameAV 20 (.agg cs) (.agg cs)=true:=by
 obtain ⟨v,rfl,hv⟩:=hx
 rcases Sl.shape hv.1 with ⟨rfl,_⟩ | ⟨_,_,_,rfl⟩ <;> simp [sameAV,Go.Abs.sameL]
section
variable {S : Sums}
theorem beginC (hS:Nf S) {h:AH} {KZ:Nat→Nat} (topz:∀j,h.nx≤j→KZ j=0) (kz9:∀j,KZ j=0∨KZ j=9) {hv sv:AV} {l:List Hd} {s:List Mt} (hh:Hs KZ h hv l) (hs:Ms KZ h sv s):RnC Tryz.prog S 22 [.agg [hv,sv]] h fun r h'=>(∃p K',r=.ptr p 0∧Zs h.nx K' h' p l s∧∀j,j<h.nx→K' j=KZ j)∧Fr h h':=by
 obtain ⟨lhv,shv,ohv⟩:=hh.ln
 obtain ⟨lsv,ssv,osv⟩:=hs.ln
 have mhv:=oneM ohv
 have msv:=oneM osv
 have hl:=hh.2
 refine RnC.enter' Tryz.f22 _ 65 [.tmp 2] (hS.nb _ _ _ (by simp)) bd22 Tryz.func22 rfl rfl rfl ?_
 simp -dsimp (disch:=repeat first|rw [nxn]|rw [nxp]|omega) only [go_sem,ohv,osv,mhv,msv,lhv]
 generalize hg:((h.new (.cells [hv,sv] true false)).new (.cells [.nilsl,.nilsl] true false))=g1
 have n1:g1.nx=h.nx+2:=by rw [←hg];rfl
 have f1:Fr h g1:=by rw [←hg];exact (Fr.new _ _).news _
 have q1:g1.get h.nx=some (.cells [hv,sv] true false):=by rw [←hg];exact (AH.get_new_ne (by simp [AH.new])).trans (AH.get_new_eq rfl)
 have q2:g1.get (h.nx+1)=some (.cells [.nilsl,.nilsl] true false):=by rw [←hg];exact AH.get_new_eq rfl
 clear hg
 refine loopK_of (RnL.rounds (Q:=fun ex u=>u.d=[]∧ex=.exit 0∧Fr h u.h∧g1.nx≤u.h.nx∧u.h.get h.nx=some (.cells [hv,sv] true false)∧(∃ov K,u.h.get (h.nx+1)=some (.cells [ov,.nilsl] true false)∧(∀j,u.h.nx≤j→K j=0)∧(∀j,j<h.nx→K j=KZ j)∧K (h.nx+1)=3∧K h.nx=9∧Oy 12 10 Hy h.nx K u.h ov l)∧u.t.get 1=some (.ptr h.nx 0)∧u.t.get 3=some (.ptr (h.nx+1) 0))
  (fun k u=>u.d=[]∧Fr h u.h∧g1.nx≤u.h.nx∧u.h.get h.nx=some (.cells [hv,sv] true false)∧u.t.get 1=some (.ptr h.nx 0)∧u.t.get 3=some (.ptr (h.nx+1) 0)∧u.t.get 11=some hv∧u.t.get 12=some (.int .i64 (l.length:Nat))∧∃i:Nat,(∃ov K,u.h.get (h.nx+1)=some (.cells [ov,.nilsl] true false)∧(∀j,u.h.nx≤j→K j=0)∧(∀j,j<h.nx→K j=KZ j)∧K (h.nx+1)=3∧K h.nx=9∧Oy 12 10 Hy h.nx K u.h ov (l.take i))∧u.t.get 13=some (.int .i64 (i:Nat))∧i≤l.length∧k=l.length-i) ?_ l.length ?_) ?_
 ·rintro k ⟨tt,g,d⟩ ⟨e2,e1,e3,e4,t1,t3,t11,t12,i,⟨ov,K,e5,ktop,klow,kx,ky,hoy⟩,t13,hi,rfl⟩
  dsimp only at e1 e2 e3 e4 e5 ktop hoy t1 t3 t11 t12 t13
  subst e2
  by_cases c4:(i:Int)<(l.length:Nat)
  ·have hil:i<l.length:=by omega
   obtain ⟨x,hx⟩:∃x,l[i]? = some x:=⟨_,List.getElem?_eq_getElem hil⟩
   obtain ⟨id,off,c,cs,o,tx,nv,nd,pv,hvv,hgi,hidl,hle,hE,hnv,hnd,hnp,hpv,_⟩:=hh.el hx
   subst hvv
   have hgi:=(e1.get _ hidl).trans hgi
   have onv:=hnv.ln.2.2.2
   have ond:=hnd.ln.2.2
   obtain ⟨lpv,spv,opv⟩:=hpv.ln
   have hpl:=hpv.2
   have mnv:=oneM onv
   have mnd:=oneM ond
   have mpv:=oneM opv
   simp -dsimp (disch:=repeat first|rw [nxn]|rw [nxp]|omega) only [go_sem,c4,t1,t3,t11,t12,t13,hil,hgi,hle,hE,onv,ond,opv,mnv,mnd,mpv]
   have ff:Fr g ((g.new (.cells [.int .i64 0,.str [],.str [],.str [],.nilsl,.int .i64 0,.bool false,.int .i64 0,.int .i64 0,.nilsl,.nilsl,.int .i64 0] true false)).put g.nx (.cells [.int .i64 x.dev,.str x.folder,.str x.path,.str x.now.path,nv,.int .i64 x.now.own,.bool x.now.gone,.int .i64 x.now.size,.int .i64 x.now.len,nd,pv,.int .i64 (x.start:Nat)] true false)):=(Fr.new _ _).put _ (Nat.le_refl _)
   have w2:((g.new (.cells [.int .i64 0,.str [],.str [],.str [],.nilsl,.int .i64 0,.bool false,.int .i64 0,.int .i64 0,.nilsl,.nilsl,.int .i64 0] true false)).put g.nx (.cells [.int .i64 x.dev,.str x.folder,.str x.path,.str x.now.path,nv,.int .i64 x.now.own,.bool x.now.gone,.int .i64 x.now.size,.int .i64 x.now.len,nd,pv,.int .i64 (x.start:Nat)] true false)).get g.nx=some (.cells [.int .i64 x.dev,.str x.folder,.str x.path,.str x.now.path,nv,.int .i64 x.now.own,.bool x.now.gone,.int .i64 x.now.size,.int .i64 x.now.len,nd,pv,.int .i64 (x.start:Nat)] true false):=AH.get_put_eq rfl
   have n2:((g.new (.cells [.int .i64 0,.str [],.str [],.str [],.nilsl,.int .i64 0,.bool false,.int .i64 0,.int .i64 0,.nilsl,.nilsl,.int .i64 0] true false)).put g.nx (.cells [.int .i64 x.dev,.str x.folder,.str x.path,.str x.now.path,nv,.int .i64 x.now.own,.bool x.now.gone,.int .i64 x.now.size,.int .i64 x.now.len,nd,pv,.int .i64 (x.start:Nat)] true false)).nx=g.nx+1:=rfl
   generalize (g.new (.cells [.int .i64 0,.str [],.str [],.str [],.nilsl,.int .i64 0,.bool false,.int .i64 0,.int .i64 0,.nilsl,.nilsl,.int .i64 0] true false)).put g.nx (.cells [.int .i64 x.dev,.str x.folder,.str x.path,.str x.now.path,nv,.int .i64 x.now.own,.bool x.now.gone,.int .i64 x.now.size,.int .i64 x.now.len,nd,pv,.int .i64 (x.start:Nat)] true false)=g2 at ff w2 n2 ⊢
   have ka0:∀j,j<g.nx→(fun j=>if j=g.nx then 9 else K j) j=K j:=fun j hj=>if_neg (by omega)
   have ka1:(fun j=>if j=g.nx then 9 else K j) g.nx=9:=if_pos rfl
   have ka2:∀j,g.nx+1≤j→(fun j=>if j=g.nx then 9 else K j) j=0:=fun j hj=>(if_neg (by omega)).trans (ktop j (by omega))
   generalize (fun j=>if j=g.nx then 9 else K j)=KA at ka0 ka1 ka2
   have nh:h.nx+2≤g.nx:=by omega
   have kal:∀j,j<h.nx→KZ j=0→KA j=0:=fun j hj h0=>(ka0 j (by omega)).trans ((klow j hj).trans h0)
   have f02:=e1.trans ff
   have hra:Ra KA g2 [.str x.now.path,nv,.int .i64 x.now.own,.bool x.now.gone,.int .i64 x.now.size,.int .i64 x.now.len,nd] x.now:=⟨nv,nd,rfl,(hnv.col kal).fr f02,(hnd.col kal).fr f02,hnp⟩
   refine callK_of (copyC hS.toMr hra fun j hj=>ka2 j (by omega)) ?_
   rintro v g3 ⟨⟨cb,rfl,hcb⟩,f3⟩
   have n3:=f3.nx
   obtain ⟨v1,d1,rfl,hv1,hd1,_⟩:=hcb
   have ov1:=hv1.ln.2.2.2
   have od1:=hd1.ln.2.2
   have mv1:=oneM ov1
   have md1:=oneM od1
   have w3:=(f3.get _ (by omega)).trans w2
   have f03:=f02.trans f3
   simp -dsimp only [go_sem,w3,cells1 ov1,cells1 od1,ov1,od1,opv,mv1,md1,mpv]
   have gk4:Gk KA g3 (g3.put g.nx (.cells [.int .i64 x.dev,.str x.folder,.str x.path,.str x.now.path,v1,.int .i64 x.now.own,.bool x.now.gone,.int .i64 x.now.size,.int .i64 x.now.len,d1,pv,.int .i64 (x.start:Nat)] true false)):=(Gk.refl _ _).put (.inl (by rw [ka1];decide)) _
   have f4:Fr g (g3.put g.nx (.cells [.int .i64 x.dev,.str x.folder,.str x.path,.str x.now.path,v1,.int .i64 x.now.own,.bool x.now.gone,.int .i64 x.now.size,.int .i64 x.now.len,d1,pv,.int .i64 (x.start:Nat)] true false)):=(ff.trans f3).put _ (Nat.le_refl _)
   have w4:(g3.put g.nx (.cells [.int .i64 x.dev,.str x.folder,.str x.path,.str x.now.path,v1,.int .i64 x.now.own,.bool x.now.gone,.int .i64 x.now.size,.int .i64 x.now.len,d1,pv,.int .i64 (x.start:Nat)] true false)).get g.nx=some (.cells [.int .i64 x.dev,.str x.folder,.str x.path,.str x.now.path,v1,.int .i64 x.now.own,.bool x.now.gone,.int .i64 x.now.size,.int .i64 x.now.len,d1,pv,.int .i64 (x.start:Nat)] true false):=AH.get_put_eq rfl
   have n4:(g3.put g.nx (.cells [.int .i64 x.dev,.str x.folder,.str x.path,.str x.now.path,v1,.int .i64 x.now.own,.bool x.now.gone,.int .i64 x.now.size,.int .i64 x.now.len,d1,pv,.int .i64 (x.start:Nat)] true false)).nx=g3.nx:=rfl
   generalize (g3.put g.nx (.cells [.int .i64 x.dev,.str x.folder,.str x.path,.str x.now.path,v1,.int .i64 x.now.own,.bool x.now.gone,.int .i64 x.now.size,.int .i64 x.now.len,d1,pv,.int .i64 (x.start:Nat)] true false))=g4 at gk4 f4 w4 n4 ⊢
   have hpv4:Rs KA g4 pv x.past:=(hpv.col kal).fr (e1.trans f4)
   try simp -dsimp only [go_sem,w4,opv,mpv]
   refine callK_of (cloneRcO hS.toNb hpv4 fun j hj=>ka2 j (by omega)) ?_
   rintro pw g5 ⟨⟨KB,b1,b2,b3,hpw⟩,f5⟩
   have n5:=f5.nx
   obtain ⟨opw,spw⟩:=hpw.one
   have mpw:=oneM opw
   have w5:=(f5.get _ (by omega)).trans w4
   have lpw:=Sl.len (P:=Tryz.prog) (e:=36) (hpw.sl elRa) Tryz.underlying44
   simp -dsimp only [go_sem,w5,cells1 opw,opw,mpw,ov1,od1,lpw]
   have kb9:KB g.nx=9:=(b1 _ (by omega)).trans ka1
   have hpwid:=fun a (ha:blk pw=some a)=>oz_blk hpw ha
   have w6:(g5.put g.nx (.cells [.int .i64 x.dev,.str x.folder,.str x.path,.str x.now.path,v1,.int .i64 x.now.own,.bool x.now.gone,.int .i64 x.now.size,.int .i64 x.now.len,d1,pw,.int .i64 (x.start:Nat)] true false)).get g.nx=some (.cells [.int .i64 x.dev,.str x.folder,.str x.path,.str x.now.path,v1,.int .i64 x.now.own,.bool x.now.gone,.int .i64 x.now.size,.int .i64 x.now.len,d1,pw,.int .i64 (x.start:Nat)] true false):=AH.get_put_eq rfl
   have hz6:Oz 7 Ra g4.nx KB (g5.put g.nx (.cells [.int .i64 x.dev,.str x.folder,.str x.path,.str x.now.path,v1,.int .i64 x.now.own,.bool x.now.gone,.int .i64 x.now.size,.int .i64 x.now.len,d1,pw,.int .i64 (x.start:Nat)] true false)) pw x.past:=hpw.keep elRa ((Gk.refl _ _).put (.inl (by rw [kb9];decide)) _) fun id o n c hv=>AH.get_put_ne (by have:=hpwid id (by rw [hv];rfl);omega)
   have o6:∀j,j≠g.nx→(g5.put g.nx (.cells [.int .i64 x.dev,.str x.folder,.str x.path,.str x.now.path,v1,.int .i64 x.now.own,.bool x.now.gone,.int .i64 x.now.size,.int .i64 x.now.len,d1,pw,.int .i64 (x.start:Nat)] true false)).get j=g5.get j:=fun j hj=>AH.get_put_ne hj
   have n6:(g5.put g.nx (.cells [.int .i64 x.dev,.str x.folder,.str x.path,.str x.now.path,v1,.int .i64 x.now.own,.bool x.now.gone,.int .i64 x.now.size,.int .i64 x.now.len,d1,pw,.int .i64 (x.start:Nat)] true false)).nx=g5.nx:=rfl
   generalize (g5.put g.nx (.cells [.int .i64 x.dev,.str x.folder,.str x.path,.str x.now.path,v1,.int .i64 x.now.own,.bool x.now.gone,.int .i64 x.now.size,.int .i64 x.now.len,d1,pw,.int .i64 (x.start:Nat)] true false))=g6 at w6 hz6 o6 n6 ⊢
   refine loopK_of (RnL.rounds (Q:=fun ex u=>ex=.exit 2∧u.d=[]∧g6.nx≤u.h.nx∧(∀j,j<g6.nx→blk pw≠some j→u.h.get j=g6.get j)∧Oz 7 Ra g4.nx KB u.h pw x.past∧u.t.get 1=some (.ptr h.nx 0)∧u.t.get 3=some (.ptr (h.nx+1) 0)∧u.t.get 5=some (.ptr g.nx 0)∧u.t.get 11=some (.sl id off l.length 12 c)∧u.t.get 12=some (.int .i64 (l.length:Nat))∧u.t.get 13=some (.int .i64 (i:Nat)))
    (fun k u=>u.d=[]∧g6.nx≤u.h.nx∧(∀j,j<g6.nx→blk pw≠some j→u.h.get j=g6.get j)∧Oz 7 Ra g4.nx KB u.h pw x.past∧u.t.get 1=some (.ptr h.nx 0)∧u.t.get 3=some (.ptr (h.nx+1) 0)∧u.t.get 5=some (.ptr g.nx 0)∧u.t.get 11=some (.sl id off l.length 12 c)∧u.t.get 12=some (.int .i64 (l.length:Nat))∧u.t.get 13=some (.int .i64 (i:Nat))∧u.t.get 26=some pw∧u.t.get 27=some (.int .i64 (x.past.length:Nat))∧∃m:Nat,u.t.get 28=some (.int .i64 (m:Nat))∧m≤x.past.length∧k=x.past.length-m) ?_ x.past.length ?_) ?_
   ·rintro k ⟨tt,g7,d⟩ ⟨e2',y1,y2,y3,t1,t3,t5,t11,t12,t13,t26,t27,m,t28,hm,rfl⟩
    dsimp only at y1 y2 y3 e2' t1 t3 t5 t11 t12 t13 t26 t27 t28
    subst e2'
    by_cases c5:(m:Int)<(x.past.length:Nat)
    ·have hml:m<x.past.length:=by omega
     obtain ⟨r,hr⟩:∃r,x.past[m]? = some r:=⟨_,List.getElem?_eq_getElem hml⟩
     obtain ⟨idw,cw,css,ce,A,B,rfl,z2,z3,z4,z5,z6,zR,z8,z9,z10,z11,z12,z13⟩:=y3.at elRa hr
     have zR0:=zR
     obtain ⟨rv,rd,rfl,hrv,hrd,hrp⟩:=zR
     have orv:=hrv.ln.2.2.2
     have ord:=hrd.ln.2.2
     have mrv:=oneM orv
     have mrd:=oneM ord
     have ht7:(css.flatten.drop (m*7)).take 7=[.str r.path,rv,.int .i64 r.own,.bool r.gone,.int .i64 r.size,.int .i64 r.len,rd]:=by rw [z4,←z5,List.append_assoc,List.drop_left];rfl
     have w7:=(y2 g.nx (by omega) (fun hh=>by have:=hpwid _ hh;omega)).trans w6
     simp -dsimp (disch:=repeat first|rw [nxn]|rw [nxp]|omega) only [go_sem,c5,t1,t3,t5,t11,t12,t13,t26,t27,t28,hml,z2,z6,ht7,orv,ord,mrv,mrd]
     have ff8:Fr g7 ((g7.new (.cells [.str [],.nilsl,.int .i64 0,.bool false,.int .i64 0,.int .i64 0,.nilsl] true false)).put g7.nx (.cells [.str r.path,rv,.int .i64 r.own,.bool r.gone,.int .i64 r.size,.int .i64 r.len,rd] true false)):=(Fr.new _ _).put _ (Nat.le_refl _)
     have w8:((g7.new (.cells [.str [],.nilsl,.int .i64 0,.bool false,.int .i64 0,.int .i64 0,.nilsl] true false)).put g7.nx (.cells [.str r.path,rv,.int .i64 r.own,.bool r.gone,.int .i64 r.size,.int .i64 r.len,rd] true false)).get g7.nx=some (.cells [.str r.path,rv,.int .i64 r.own,.bool r.gone,.int .i64 r.size,.int .i64 r.len,rd] true false):=AH.get_put_eq rfl
     have n8:((g7.new (.cells [.str [],.nilsl,.int .i64 0,.bool false,.int .i64 0,.int .i64 0,.nilsl] true false)).put g7.nx (.cells [.str r.path,rv,.int .i64 r.own,.bool r.gone,.int .i64 r.size,.int .i64 r.len,rd] true false)).nx=g7.nx+1:=rfl
     generalize ((g7.new (.cells [.str [],.nilsl,.int .i64 0,.bool false,.int .i64 0,.int .i64 0,.nilsl] true false)).put g7.nx (.cells [.str r.path,rv,.int .i64 r.own,.bool r.gone,.int .i64 r.size,.int .i64 r.len,rd] true false))=g8 at ff8 w8 n8 ⊢
     have w78:=(ff8.get _ (by omega)).trans w7
     refine syDraw.keepN 6 (fun j=>j=g.nx∨j=g7.nx) (by kernel_rfl) (by kernel_rfl) rfl ?_
     have fx:Fr g8 { tr:=g8.tr,nx:=g8.nx+7 }:=(Fr.refl g8).more _ (by omega)
     simp -dsimp only [go_sem,t1,t3,t5,t11,t12,t13,w78,w8,orv,ord,mrv,mrd,ov1,od1,opw,spw,true_and,true_or,or_true,implies_true,svi,svb,svs,svp,zR0.sv]
     refine callK_of (copyC hS.toMr (((zR0.fr ff8).fr fx)) fun j hj=>b2 j (by have:g8.nx+7≤j:=hj;omega)) ?_
     rintro v g9 ⟨⟨cb,rfl,hcb⟩,f9⟩
     have n9:g8.nx+7≤g9.nx:=f9.nx
     have hcb0:=hcb
     obtain ⟨bv,bd,rfl,hbv,hbd,_⟩:=hcb
     have obv:=hbv.ln.2.2.2
     have obd:=hbd.ln.2.2
     have mbv:=oneM obv
     have mbd:=oneM obd
     have f79:=(ff8.trans fx).trans f9
     refine ⟨fun j hj=>f9.get j (by show j<g8.nx+7;rcases hj with rfl | rfl <;> omega),?_⟩
     have y39:=y3.fr elRa f79
     have z29:=(f79.get _ z12).trans z2
     have z99:∀(i:Nat) cs r,css[i]? = some cs→x.past[i]? = some r→Ra KB g9 cs r:=fun i cs r h1 h2=>(z9 i cs r h1 h2).fr f79
     have hgk:Gk KB g9 (g9.put idw (.cells (putCells css.flatten (m*7+0) [.str r.path,bv,.int .i64 r.own,.bool r.gone,.int .i64 r.size,.int .i64 r.len,bd]) true false)):=(Gk.refl _ _).put (.inl z13) _
     have hzn:=y39.put elRa (k:=0) (vs:=[.str r.path,bv,.int .i64 r.own,.bool r.gone,.int .i64 r.size,.int .i64 r.len,bd]) (x':=r) rfl z29 z8 z99 hr z3 (Nat.le_refl _) (hcb0.gk hgk)
     rw [set_same hr] at hzn
     simp -dsimp (disch:=repeat first|rw [nxn]|rw [nxp]|omega) only [go_sem,t1,t3,t5,t11,t12,t13,t26,t27,t28,hml,z29,z6,obv,obd,mbv,mbd,true_and,true_or,or_true,implies_true,svi,svb,svs,svp]
     exact ⟨x.past.length-(m+1),by omega,by omega,fun j hj hh=>(AH.get_put_ne (fun he=>hh (by rw [he];rfl))).trans ((f79.get j (by omega)).trans (y2 j hj hh)),hzn,m+1,rfl,by omega,rfl⟩
    ·simp -dsimp only [go_sem,c5,t1,t3,t5,t11,t12,t13,t26,t27,t28]
     exact ⟨trivial,trivial,y1,y2,y3,trivial,trivial,trivial,trivial,trivial,trivial⟩
   ·simp -dsimp (disch:=repeat first|rw [nxn]|rw [nxp]|omega) only [go_sem,t1,t3,t11,t12,t13]
    exact ⟨trivial,Nat.le_refl _,fun _ _ _=>trivial,hz6,trivial,trivial,trivial,trivial,trivial,trivial,trivial,trivial,0,rfl,Nat.zero_le _,rfl⟩
   ·rintro ex ⟨tt,g7,d⟩ ⟨rfl,rfl,y1,y2,y3,t1,t3,t5,t11,t12,t13⟩
    dsimp only at y1 y2 y3 t1 t3 t5 t11 t12 t13
    have hzo:=hoy.fr eyH f4
    have kb0:∀j,j<g.nx→KB j=K j:=fun j hj=>(b1 j (by omega)).trans (ka0 j hj)
    have hpwn:∀j,j<g4.nx→blk pw≠some j:=fun j hj hh=>by have:=hpwid j hh;omega
    have o5:∀j,j<g4.nx→j≠g.nx→g7.get j=g4.get j:=fun j hj hne=>(y2 j (by omega) (hpwn j hj)).trans ((o6 j hne).trans (f5.get j hj))
    -- colours: the copy's block is what an element owns
    obtain ⟨KC,kc0,kc1,kc2,kc3,kc4,kc5⟩:∃KC:Nat→Nat,(∀j,j<g.nx→KC j=K j)∧(∀a,blk pw=some a→KC a=5)∧(∀j,g5.nx≤j→KC j=0)∧KC g.nx=9∧(∀j,j<g4.nx→KC j=KA j)∧(∀j,blk pw≠some j→KC j=KB j):=⟨fun j=>if blk pw=some j then 5 else KB j,fun j hj=>(if_neg (hpwn j (by omega))).trans (kb0 j hj),fun a ha=>if_pos ha,fun j hj=>(if_neg (fun hh=>by have:=hpwid j hh;omega)).trans (b2 j hj),(if_neg (hpwn _ (by omega))).trans kb9,fun j hj=>(if_neg (hpwn j hj)).trans (b1 j hj),fun j hj=>if_neg hj⟩
    have w7:=(y2 g.nx (by omega) (hpwn _ (by omega))).trans w6
    have e57:=(o5 (h.nx+1) (by omega) (by omega)).trans ((f4.get _ (by omega)).trans e5)
    obtain ⟨oov,sov⟩:=hoy.one
    have mov:=oneM oov
    have hgX:∀o,(g7.new o).get g7.nx=some o:=fun o=>AH.get_new_eq rfl
    have hkbp:∀j,KB j=0→blk pw≠some j:=fun j hj hh=>by
     cases pw <;> first | (cases hh;done) | skip
     cases hh
     rcases y3 with ⟨css,a2,a3,a4,a5⟩
     rcases a2 with ⟨h0,_⟩ | ⟨id',n',c',tx',h0,_⟩
     ·cases h0
     ·cases h0
      exact a5 _ _ _ _ rfl hj
    have gXg:∀o j,j<g.nx→(g7.new o).get j=g.get j:=fun o j hj=>(AH.get_new_ne (by omega)).trans ((o5 j (by omega) (by omega)).trans (f4.get j hj))
    have gX4:∀o,Gk KC g4 (g7.new o):=fun o=>⟨by show g4.nx≤g7.nx+1;omega,fun j hj hk=>(AH.get_new_ne (by omega)).trans (o5 j hj (fun hh=>by rw [hh,kc3] at hk;omega))⟩
    have hyX:∀o,Hy h.nx KC (g7.new o) [.int .i64 x.dev,.str x.folder,.str x.path,.str x.now.path,v1,.int .i64 x.now.own,.bool x.now.gone,.int .i64 x.now.size,.int .i64 x.now.len,d1,pw,.int .i64 (x.start:Nat)] x:=fun o=>⟨v1,d1,pw,rfl,((hv1.gk gk4).col fun j hj hk=>(kc4 j hj).trans hk).gk (gX4 o),((hd1.gk gk4).col fun j hj hk=>(kc4 j hj).trans hk).gk (gX4 o),hnp,((y3.low (show h.nx≤g4.nx by omega)).col elRa (fun j hj hk=>(kc5 j (hkbp j hk)).trans hk) fun id' o' n' c' hv=>by rw [kc1 id' (by rw [hv];rfl)];decide).fr elRa (Fr.new _ _),kc1,hpl⟩
    have hlt:(l.take i).length=i:=by rw [List.length_take];omega
    obtain ⟨id2,gZ,ap,ip1,ip2,ip3,ip4,ip5⟩:=Oy.app (P:=Tryz.prog) eyH (h1:=g) (h:=g7.new (.cells [.int .i64 x.dev,.str x.folder,.str x.path,.str x.now.path,v1,.int .i64 x.now.own,.bool x.now.gone,.int .i64 x.now.size,.int .i64 x.now.len,d1,pw,.int .i64 (x.start:Nat)] true false)) (hoy.col eyH (K':=KC) fun j hj _=>kc0 j hj) ⟨by show g.nx≤g7.nx+1;omega,fun j hj _=>gXg _ j hj⟩ Tryz.underlying25 ajHd (hyX _) (fun a ha=>by have:=(hpwid a ha).1;omega) (hgX _) (by show h.nx≤g7.nx+1;omega) (by omega) (by omega)
    have hov:∀j,j<g.nx→K j≠1→gZ.get j=g.get j:=fun j hj hk=>(ip4 j (by show j<g7.nx+1;omega) fun id' o n c hv hh=>by
     have:=(hoy.id eyH hv).2.2.1
     rw [hh] at hk
     exact hk this).trans (gXg _ j hj)
    have nZ:g7.nx+1≤gZ.nx:=ip3
    have ip1':g7.nx+1≤id2:=ip1
    have KD0:∀j,j<g7.nx+1→(fun j=>if j=id2 then 1 else KC j) j=KC j:=fun j hj=>if_neg (by omega)
    have KD1:(fun j=>if j=id2 then 1 else KC j) id2=1:=if_pos rfl
    have KD2:∀j,gZ.nx≤j→(fun j=>if j=id2 then 1 else KC j) j=0:=fun j hj=>(if_neg (by omega)).trans (kc2 j (by omega))
    generalize (fun j=>if j=id2 then 1 else KC j)=KD at KD0 KD1 KD2
    have hoyZ:=ip5 KD (fun j hj=>KD0 j hj) KD1
    have kdx:KD (h.nx+1)=3:=(KD0 _ (by omega)).trans ((kc0 _ (by omega)).trans kx)
    rw [hlt] at ap hoyZ
    have hbx:gZ.get (h.nx+1)=some (.cells [ov,.nilsl] true false):=(hov _ (by omega) (by rw [kx];decide)).trans e5
    have hb0:=(hov h.nx (by omega) (by rw [ky];decide)).trans e4
    simp -dsimp (disch:=repeat first|rw [nxn]|rw [nxp]|omega) only [go_sem,t1,t3,t5,t11,t12,t13,w7,e57,oov,mov,ov1,od1,opw,mv1,md1,mpw,hgX,ap,hbx]
    have fz:Fr h (gZ.put (h.nx+1) (.cells [.sl id2 0 (i+1) 12 none,.nilsl] true false)):=⟨by show h.nx≤gZ.nx;omega,fun j hj=>(AH.get_put_ne (by omega)).trans ((hov j (by omega) (by rw [klow j hj];rcases kz9 j with h9 | h9 <;> rw [h9] <;> decide)).trans (e1.get j hj))⟩
    refine ⟨l.length-(i+1),by omega,trivial,fz,by omega,hb0,trivial,trivial,trivial,trivial,i+1,⟨_,KD,rfl,KD2,fun j hj=>(KD0 j (by omega)).trans ((kc0 j (by omega)).trans (klow j hj)),kdx,(KD0 _ (by omega)).trans ((kc0 _ (by omega)).trans ky),?_⟩,rfl,by omega,rfl⟩
    rw [List.take_add_one,hx]
    exact hoyZ.kc eyH ⟨Nat.le_refl _,fun j hj hk=>AH.get_put_ne (fun hh=>by subst hh;omega)⟩
  ·obtain rfl:i=l.length:=by omega
   rw [List.take_length] at hoy
   simp -dsimp only [go_sem,c4,t1,t3,t11,t12,t13]
   exact ⟨trivial,trivial,e1,e3,e4,⟨ov,K,e5,ktop,klow,kx,ky,hoy⟩,trivial,trivial⟩
 ·simp -dsimp only [go_sem]
  exact ⟨trivial,f1,Nat.le_refl _,q1,trivial,trivial,trivial,trivial,0,⟨.nilsl,fun j=>if j=h.nx+1 then 3 else if j=h.nx then 9 else KZ j,q2,fun j hj=>(if_neg (by omega)).trans ((if_neg (by omega)).trans (topz j (by omega))),fun j hj=>(if_neg (by omega)).trans (if_neg (by omega)),if_pos rfl,(if_neg (by omega)).trans (if_pos rfl),Oy.nil _ _ _⟩,rfl,Nat.zero_le _,rfl⟩
 ·rintro ex ⟨tt,g,d⟩ ⟨rfl,rfl,e1,e3,e4,⟨ov,K,e5,ktop,klow,kx,ky,hoy⟩,t1,t3⟩
  dsimp only at e1 e3 e4 e5 ktop hoy t1 t3
  simp -dsimp only [go_sem,t1,t3,e4,osv,msv,lsv]
  refine loopK_of (RnL.rounds (Q:=fun ex u=>u.d=[]∧ex=.exit 4∧Fr h u.h∧g1.nx≤u.h.nx∧(∃ov sw K,u.h.get (h.nx+1)=some (.cells [ov,sw] true false)∧(∀j,u.h.nx≤j→K j=0)∧(∀j,j<h.nx→K j=KZ j)∧K (h.nx+1)=3∧Oy 12 10 Hy h.nx K u.h ov l∧Oz 2 Ma h.nx K u.h sw s∧∀a,blk sw=some a→K a=2)∧u.t.get 3=some (.ptr (h.nx+1) 0))
   (fun k u=>u.d=[]∧Fr h u.h∧g1.nx≤u.h.nx∧u.t.get 3=some (.ptr (h.nx+1) 0)∧u.t.get 48=some sv∧u.t.get 49=some (.int .i64 (s.length:Nat))∧∃i:Nat,(∃ov sw K,u.h.get (h.nx+1)=some (.cells [ov,sw] true false)∧(∀j,u.h.nx≤j→K j=0)∧(∀j,j<h.nx→K j=KZ j)∧K (h.nx+1)=3∧Oy 12 10 Hy h.nx K u.h ov l∧Oz 2 Ma h.nx K u.h sw (s.take i)∧∀a,blk sw=some a→K a=2)∧u.t.get 50=some (.int .i64 (i:Nat))∧i≤s.length∧k=s.length-i) ?_ s.length ?_) ?_
  ·clear e5 ktop klow kx ky hoy t1 t3 e1 e3 e4 ov K
   rintro k ⟨tt,g,d⟩ ⟨e2,e1,e3,t3,t48,t49,i,⟨ov,sw,K,e5,ktop,klow,kx,hoy,hoz,hsw⟩,t50,hi,rfl⟩
   dsimp only at e1 e2 e3 e5 ktop hoy hoz t3 t48 t49 t50
   subst e2
   by_cases c4:(i:Int)<(s.length:Nat)
   ·have hil:i<s.length:=by omega
    obtain ⟨x,hx⟩:∃x,s[i]? = some x:=⟨_,List.getElem?_eq_getElem hil⟩
    obtain ⟨id,off,c,cs,o,tx,rw',hvv,hgi,hidl,hle,hE,hrw⟩:=hs.el hx
    subst hvv
    have hgi:=(e1.get _ hidl).trans hgi
    obtain ⟨lrw,srw,orw⟩:=hrw.ln
    have mrw:=oneM orw
    simp -dsimp (disch:=repeat first|rw [nxn]|rw [nxp]|omega) only [go_sem,c4,t3,t48,t49,t50,hil,hgi,hle,hE,orw,mrw]
    have ff:Fr g ((g.new (.cells [.int .i64 0,.nilsl] true false)).put g.nx (.cells [.int .i64 x.own,rw'] true false)):=(Fr.new _ _).put _ (Nat.le_refl _)
    have w2:((g.new (.cells [.int .i64 0,.nilsl] true false)).put g.nx (.cells [.int .i64 x.own,rw'] true false)).get g.nx=some (.cells [.int .i64 x.own,rw'] true false):=AH.get_put_eq rfl
    have n2:((g.new (.cells [.int .i64 0,.nilsl] true false)).put g.nx (.cells [.int .i64 x.own,rw'] true false)).nx=g.nx+1:=rfl
    generalize ((g.new (.cells [.int .i64 0,.nilsl] true false)).put g.nx (.cells [.int .i64 x.own,rw'] true false))=g2 at ff w2 n2 ⊢
    obtain ⟨KB,kb0,kb1,kb2⟩:∃KB:Nat→Nat,(∀j,j<g2.nx→KB j=K j)∧(∀j,g2.nx≤j→j<g2.nx+8→KB j=9)∧∀j,g2.nx+8≤j→KB j=0:=⟨fun j=>if g2.nx≤j∧j<g2.nx+8 then 9 else K j,fun j hj=>if_neg (by omega),fun j h1 h2=>if_pos ⟨h1,h2⟩,fun j hj=>(if_neg (by omega)).trans (ktop j (by omega))⟩
    have e52:=(ff.get _ (by omega)).trans e5
    obtain ⟨oov,sov⟩:=hoy.one
    obtain ⟨osw,ssw⟩:=hoz.one
    have mov:=oneM oov
    have msw:=oneM osw
    refine syDraw.keepN 7 (fun j=>j=h.nx+1∨j=g.nx) (by kernel_rfl) (by kernel_rfl) rfl ?_
    have fA:Fr g2 { tr:=g2.tr,nx:=g2.nx+8 }:=(Fr.refl g2).more _ (by omega)
    have hma:Ma KB g2 [.int .i64 x.own,rw'] x:=⟨rw',rfl,((hrw.col fun j hj h0=>(kb0 j (by omega)).trans ((klow j hj).trans h0)).fr e1).fr ff⟩
    simp -dsimp only [go_sem,t3,e52,w2,oov,mov,sov,osw,msw,ssw,orw,mrw,srw,true_and,true_or,or_true,implies_true,svi,svb,svs,svp,Ma.sv hma]
    refine callK_of (ownC hS.toNb (hma.fr fA) fun j hj=>kb2 j hj) ?_
    rintro v g3 ⟨⟨cb,rfl,hcb⟩,f3⟩
    have n3:g2.nx+8≤g3.nx:=f3.nx
    have hcb0:=hcb
    obtain ⟨bw,rfl,hbw⟩:=hcb
    have obw:=hbw.ln.2.2
    have mbw:=oneM obw
    refine ⟨fun j hj=>f3.get j (by show j<g2.nx+8;rcases hj with rfl | rfl <;> omega),?_⟩
    have fB:Fr g2 (g3.put (g2.nx+4) (.cells [.int .i64 x.own,bw] true false)):=(fA.trans f3).put _ (by omega)
    have gkB:Gk KB g3 (g3.put (g2.nx+4) (.cells [.int .i64 x.own,bw] true false)):=(Gk.refl _ _).put (.inl (by rw [kb1 _ (by omega) (by omega)];decide)) _
    have hgB:(g3.put (g2.nx+4) (.cells [.int .i64 x.own,bw] true false)).get (g2.nx+4)=_:=AH.get_put_eq rfl
    have hlt:(s.take i).length=i:=by rw [List.length_take];omega
    have hls:=hs.2
    have hozB:Oz 2 Ma h.nx KB g2 sw (s.take i):=(hoz.fr elMa ff).col elMa (fun j hj hk=>(kb0 j hj).trans hk) fun id' o' n' c' hv=>by
     have:=oz_blk hoz (a:=id') (by rw [hv];rfl)
     rw [kb0 _ (by omega),hsw _ (by rw [hv];rfl)]
     decide
    obtain ⟨id2,gZ,ap,ip1,ip2,ip3,ip4,ip5⟩:=Oz.app (P:=Tryz.prog) elMa (hozB.fr elMa fB) Tryz.underlying26 ajMt (hcb0.gk gkB) hgB (by show h.nx≤g3.nx;omega) (by omega) (by omega)
    rw [hlt] at ap ip5
    have ip1':g3.nx≤id2:=ip1
    have ip3':g3.nx≤gZ.nx:=ip3
    have hout:∀j,j<g2.nx→K j≠2→gZ.get j=g2.get j:=fun j hj hk=>(ip4 j (by show j<g3.nx;omega) fun id' o' n' c' hv hh=>by rw [hh] at hk;exact hk (hsw _ (by rw [hv];rfl))).trans (fB.get j hj)
    simp -dsimp only [go_sem,t3,obw,mbw,cells1 obw,ap,osw,ssw,true_and,true_or,or_true,implies_true,svi,svb,svs,svp]
    refine ⟨fun j hj=>(hout j (by rcases hj with rfl | rfl <;> omega) (by rcases hj with rfl | rfl;rw [kx];decide;rw [ktop _ (Nat.le_refl _)];decide)).trans ((fA.trans f3).get j (by rcases hj with rfl | rfl <;> omega)).symm,?_⟩
    have e53:=(hout (h.nx+1) (by omega) (by rw [kx];decide)).trans e52
    have KD0:∀j,j<g3.nx→(fun j=>if j=id2 then 2 else KB j) j=KB j:=fun j hj=>if_neg (by omega)
    have KD1:(fun j=>if j=id2 then 2 else KB j) id2=2:=if_pos rfl
    have KD2:∀j,gZ.nx≤j→(fun j=>if j=id2 then 2 else KB j) j=0:=fun j hj=>(if_neg (by omega)).trans (kb2 j (by omega))
    generalize (fun j=>if j=id2 then 2 else KB j)=KD at KD0 KD1 KD2
    have hozZ:=ip5 KD (fun j hj=>KD0 j hj) (by rw [KD1];decide)
    have kdx:KD (h.nx+1)=3:=(KD0 _ (by omega)).trans ((kb0 _ (by omega)).trans kx)
    simp -dsimp (disch:=repeat first|rw [nxn]|rw [nxp]|omega) only [go_sem,t3,t48,t49,t50,e53,oov,mov,true_and,true_or,or_true,implies_true,svi,svb,svs,svp]
    have fz:Fr h (gZ.put (h.nx+1) (.cells [ov,.sl id2 0 (i+1) 2 none] true false)):=⟨by show h.nx≤gZ.nx;omega,fun j hj=>(AH.get_put_ne (by omega)).trans ((hout j (by omega) (by rw [klow j hj];rcases kz9 j with h9 | h9 <;> rw [h9] <;> decide)).trans ((ff.get j (by omega)).trans (e1.get j hj)))⟩
    refine ⟨s.length-(i+1),by omega,fz,by omega,i+1,⟨_,_,KD,rfl,KD2,fun j hj=>(KD0 j (by omega)).trans ((kb0 j (by omega)).trans (klow j hj)),kdx,(hoy.col eyH fun j hj _=>(KD0 j (by omega)).trans (kb0 j (by omega))).kc eyH ⟨by show g.nx≤gZ.nx;omega,fun j hj hk=>?_⟩,?_,fun a ha=>by cases ha;exact KD1⟩,rfl,by omega,rfl⟩
    ·have hkj:=(KD0 j (by omega)).trans (kb0 j (by omega))
     exact (AH.get_put_ne (fun hh=>by rw [hh,kdx] at hk;omega)).trans ((hout j (by omega) (by rw [←hkj];omega)).trans (ff.get j hj))
    ·rw [List.take_add_one,hx]
     exact hozZ.keep elMa ((Gk.refl _ _).put (.inl (by rw [kdx];decide)) _) fun id' o' n' c' hv=>by cases hv;exact AH.get_put_ne (by omega)
   ·obtain rfl:i=s.length:=by omega
    rw [List.take_length] at hoz
    simp -dsimp only [go_sem,c4,t3,t48,t49,t50]
    exact ⟨trivial,trivial,e1,e3,⟨ov,sw,K,e5,ktop,klow,kx,hoy,hoz,hsw⟩,trivial⟩
  ·simp -dsimp only [go_sem]
   exact ⟨trivial,e1,e3,t3,trivial,trivial,0,⟨ov,.nilsl,K,e5,ktop,klow,kx,hoy,Oz.nil _ _ _,(fun a ha=>by cases ha)⟩,rfl,Nat.zero_le _,rfl⟩
  ·clear e5 ktop klow kx ky hoy t1 t3 e1 e3 e4 ov K
   rintro ex ⟨tt,g,d⟩ ⟨rfl,rfl,e1,e3,⟨ov,sw,K,e5,ktop,klow,kx,hoy,hoz,hsw⟩,t3⟩
   dsimp only at e1 e3 e5 ktop hoy hoz t3
   obtain ⟨oov,sov⟩:=hoy.one
   obtain ⟨osw,ssw⟩:=hoz.one
   have mov:=oneM oov
   have msw:=oneM osw
   simp -dsimp only [go_sem,t3,e5,oov,mov,osw,msw,bldS]
   have K0:∀j,j<g.nx→(fun j=>if j=g.nx then 3 else K j) j=K j:=fun j hj=>if_neg (by omega)
   refine ⟨⟨g.nx,fun j=>if j=g.nx then 3 else K j,rfl,⟨fun j hj=>?_,⟨ov,sw,AH.get_new_eq rfl,(hoy.col eyH fun j hj _=>K0 j hj).fr eyH (Fr.new _ _),(hoz.col elMa (fun j hj hk=>(K0 j hj).trans hk) fun id' o' n' c' hv=>?_).fr elMa (Fr.new _ _),fun a ha=>(K0 a (oz_blk hoz ha).2).trans (hsw a ha)⟩,⟨by omega,Nat.lt_succ_self _,if_pos rfl⟩,hl,hs.2⟩,fun j hj=>(K0 j (by omega)).trans (klow j hj)⟩,e1.trans (Fr.new _ _)⟩
   ·have hj':g.nx+1≤j:=hj
    exact (if_neg (by omega)).trans (ktop j (by omega))
   ·have h1:=K0 _ (oz_blk hoz (a:=id') (by rw [hv];rfl)).2
    rw [hsw id' (by rw [hv];rfl)] at h1
    exact fun hh=>by
     have h2:=h1.symm.trans hh
     cases h2
end
end Go.Proofs.YtihigekgnnoejaaGreatDoor.mdl
end