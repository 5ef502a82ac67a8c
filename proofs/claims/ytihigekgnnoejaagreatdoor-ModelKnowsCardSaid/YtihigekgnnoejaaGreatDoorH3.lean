/- Texts joined: MLf, MLg. -/
import Derived.Test.YtihigekgnnoejaaGreatDoorG1
import Derived.Test.YtihigekgnnoejaaGreatDoorH2
set_option maxRecDepth 100000
set_option linter.unusedVariables false
set_option linter.unusedSimpArgs false
set_option maxHeartbeats 16000000
section
namespace Go.Proofs.YtihigekgnnoejaaGreatDoor.mdl
open Go Go.Abs Go.Proofs
def RaU (h:AH) (cs:List AV) (r:Rc):Prop:=∃v d,cs=[.str r.path,v,.int .i64 r.own,.bool r.gone,.int .i64 r.size,.int .i64 r.len,d]∧Fl (fun _=>0) 2 h v (r.vec.flatMap ctc)∧Fl (fun _=>0) 32 h d (r.digs.flatMap dgc)
def WaU (h:AH) (cs:List AV) (r:Rw):Prop:=∃v,cs=[.str r.folder,v]∧Fl (fun _=>0) 1 h v (r.own.flatMap fun i=>[AV.int .i64 i])
def SaU (h:AH) (cs:List AV) (x:Se):Prop:=∃v1 d1 v2 d2 rw rv,cs=[.int .i64 x.kind,.int .i64 x.dev,.int .i64 x.peer,.int .i64 x.num,.str x.folder,.str x.path,.int .i64 x.dkind,.str x.dfolder,.str x.dpath,.str x.rc.path,v1,.int .i64 x.rc.own,.bool x.rc.gone,.int .i64 x.rc.size,.int .i64 x.rc.len,d1,.str x.copy,.str x.cp.path,v2,.int .i64 x.cp.own,.bool x.cp.gone,.int .i64 x.cp.size,.int .i64 x.cp.len,d2,.int .i64 x.ckind,.str x.cfolder,.int .i64 x.cdev,.int .i64 x.mt.own,rw,rv] ∧
 RaU h [.str x.rc.path,v1,.int .i64 x.rc.own,.bool x.rc.gone,.int .i64 x.rc.size,.int .i64 x.rc.len,d1] x.rc∧RaU h [.str x.cp.path,v2,.int .i64 x.cp.own,.bool x.cp.gone,.int .i64 x.cp.size,.int .i64 x.cp.len,d2] x.cp∧Sl (fun _=>0) 2 (WaU h) h rw x.mt.rows∧Sl (fun _=>0) 7 (RaU h) h rv x.rs
theorem RaU.fr {h h':AH} {cs:List AV} {r:Rc} (hb:RaU h cs r) (f:Fr h h'):RaU h' cs r:=let ⟨v,d,h1,h2,h3⟩:=hb;⟨v,d,h1,h2.fr f,h3.fr f⟩
theorem WaU.fr {h h':AH} {cs:List AV} {r:Rw} (hb:WaU h cs r) (f:Fr h h'):WaU h' cs r:=let ⟨v,h1,h2⟩:=hb;⟨v,h1,h2.fr f⟩
theorem SaU.fr {h h':AH} {cs:List AV} {x:Se} (hb:SaU h cs x) (f:Fr h h'):SaU h' cs x:=let ⟨a,b,c,d,e,g,h1,h2,h3,h4,h5⟩:=hb;⟨a,b,c,d,e,g,h1,h2.fr f,h3.fr f,h4.gk (f.gk _) fun _ _ hx=>hx.fr f,h5.gk (f.gk _) fun _ _ hx=>hx.fr f⟩
def lightR (r:Rc):Bool:=decide (r.path.length≤120)&&(decide (r.vec.length≤120)&&decide (r.digs.length≤120))
def lightM (rows:List Rw):Prop:=rows.length≤120∧∀r∈rows,r.folder.length≤120∧r.own.length≤120
def lightRs (l:List Rc):Prop:=l.length≤12∧∀r∈l,lightR r=true
def lightS (x:Se):Prop:=lightR x.rc=true∧lightR x.cp=true∧lightM x.mt.rows∧lightRs x.rs
theorem lightR_iff {r:Rc}:lightR r=true↔r.path.length≤120∧r.vec.length≤120∧r.digs.length≤120:=by simp [lightR]
theorem RaU.ra {h:AH} {cs:List AV} {r:Rc} (hb:RaU h cs r) (hl:lightR r=true):Ra (fun _=>0) h cs r:=by
 obtain ⟨v,d,h1,h2,h3⟩:=hb
 obtain ⟨l1,l2,l3⟩:=lightR_iff.1 hl
 exact ⟨v,d,h1,⟨h2,by omega⟩,⟨h3,by omega⟩,by omega⟩
theorem sl_on {α:Type} {K:Nat→Nat} {z:Nat} {E E':List AV→α→Prop} {h:AH} {v:AV} {l:List α} (hb:Sl K z E h v l) (hE:∀cs x,x∈l→E cs x→E' cs x):Sl K z E' h v l:=by
 rcases hb with h1 | ⟨id,off,c,cs,o,t,h1,h2,h3,h4,h5,h6,h7⟩
 ·exact .inl h1
 ·exact .inr ⟨id,off,c,cs,o,t,h1,h2,h3,h4,h5,h6,fun i x hi=>hE _ _ (List.mem_of_getElem? hi) (h7 i x hi)⟩
theorem SaU.sa {h:AH} {cs:List AV} {x:Se} (hb:SaU h cs x) (hl:lightS x):Sa (fun _=>0) h cs x:=by
 obtain ⟨v1,d1,v2,d2,rw',rv,e,h1,h2,h3,h4⟩:=hb
 obtain ⟨l1,l2,l3,l4⟩:=hl
 obtain ⟨v,d,e1,a1,a2,a3⟩:=h1.ra l1
 simp only [List.cons.injEq,and_true,true_and] at e1
 obtain ⟨rfl,rfl⟩:=e1
 obtain ⟨v,d,e2,b1,b2,b3⟩:=h2.ra l2
 simp only [List.cons.injEq,and_true,true_and] at e2
 obtain ⟨rfl,rfl⟩:=e2
 refine ⟨v1,d1,v2,d2,rw',rv,e,a1,a2,a3,b1,b2,b3,⟨sl_on h3 fun cs r hr hx=>?_,by have:=l3.1;omega⟩,⟨sl_on h4 fun cs r hr hx=>hx.ra (l4.2 r hr),by have:=l4.1;omega⟩⟩
 obtain ⟨w,e3,c1⟩:=hx
 exact ⟨w,e3,c1,by have:=(l3.2 r hr).2;omega⟩
theorem lightS.sz {x:Se} (hl:lightS x):szM x.mt 120∧x.rs.length≤20:=⟨⟨hl.2.2.1.1,fun r hr=>(hl.2.2.1.2 r hr).2⟩,by have:=hl.2.2.2.1;omega⟩
theorem evLenS (g:AH) (s:List Nat):evLen Tryz.prog g #[9] (.str s)=some (.int .i64 (s.length:Nat)):=by simp [evLen,Tryz.underlying9]
theorem one_len (l:List Int):(l.flatMap fun i=>[AV.int .i64 i]).length=l.length*1:=flat_len (fun i=>[AV.int .i64 i]) 1 (fun _=>rfl) l
section
variable {S : Sums}
theorem lightRC (hS:Nx S) {h:AH} {cs:List AV} {r:Rc} (hr:RaU h cs r):RnC Tryz.prog S 11 [.agg cs,.int .i64 120] h fun v h'=>v=.bool (lightR r)∧Fr h h':=by
 obtain ⟨v,d,rfl,hv,hd⟩:=hr
 have lv:=fun g=>Fl.len (P:=Tryz.prog) hv Tryz.underlying31 (by decide) (ctc_len r.vec) g
 have ld:=fun g=>Fl.len (P:=Tryz.prog) hd Tryz.underlying32 (by decide) (dgc_len r.digs) g
 have ov:=hv.one.2
 have od:=hd.one.2
 have mv:=oneM ov
 have md:=oneM od
 refine RnC.enter' Tryz.f11 _ 25 [.tmp 4] (hS.nx8 _ _ _ (by simp)) bd11 Tryz.func11 rfl rfl rfl ?_
 by_cases h1:(r.path.length:Int)≤120
 ·by_cases h2:(r.vec.length:Int)≤120
  ·by_cases h3:(r.digs.length:Int)≤120
   ·simp -dsimp only [go_sem,evLenS,ov,od,mv,md,lv,ld,h1,h2,h3]
    exact ⟨by rw [lightR_iff.2 ⟨by omega,by omega,by omega⟩],(Fr.new _ _).trans (Fr.refl _)⟩
   ·simp -dsimp only [go_sem,evLenS,ov,od,mv,md,lv,ld,h1,h2,h3]
    have:lightR r=false:=by rw [Bool.eq_false_iff];intro hh;have:=lightR_iff.1 hh;omega
    exact ⟨by rw [this],(Fr.new _ _).trans (Fr.refl _)⟩
  ·simp -dsimp only [go_sem,evLenS,ov,od,mv,md,lv,ld,h1,h2]
   have:lightR r=false:=by rw [Bool.eq_false_iff];intro hh;have:=lightR_iff.1 hh;omega
   exact ⟨by rw [this],(Fr.new _ _).trans (Fr.refl _)⟩
 ·simp -dsimp only [go_sem,evLenS,ov,od,mv,md,lv,ld,h1]
  have:lightR r=false:=by rw [Bool.eq_false_iff];intro hh;have:=lightR_iff.1 hh;omega
  exact ⟨by rw [this],(Fr.new _ _).trans (Fr.refl _)⟩
end
section
variable {S : Sums}
theorem lightRsC (hS:Nx S) {h:AH} {v:AV} {l:List Rc} (hv:Sl (fun _=>0) 7 (RaU h) h v l):RnC Tryz.prog S 21 [v,.int .i64 12,.int .i64 120] h fun r h'=>(∃b,r=.bool b∧(b=true→lightRs l))∧Fr h h':=by
 refine RnC.enter' Tryz.f21 _ 30 [.tmp 6] (hS.nx8 _ _ _ (by simp)) bd21 Tryz.func21 rfl rfl rfl ?_
 have lv:=fun g=>Sl.len (P:=Tryz.prog) hv Tryz.underlying44 g
 have ov:=hv.one.2
 have mv:=oneM ov
 simp -dsimp (disch:=repeat first|rw [nxn]|rw [nxp]|omega) only [go_sem,lv,ov,mv]
 refine loopK_of (RnL.rounds (Q:=fun ex u=>u.d=[]∧Fr h u.h∧(ex=.exit 0∧u.t.get 0=some v∧u.t.get 1=some (.int .i64 12)∧(l.length≤12→lightRs l)∨ex=.ret∧u.t.get 6=some (.bool false)))
  (fun m u=>u.d=[]∧Fr h u.h∧u.t.get 0=some v∧u.t.get 1=some (.int .i64 12)∧u.t.get 2=some (.int .i64 120)∧∃i:Nat,u.t.get 7=some (.int .i64 (i:Nat))∧i≤l.length∧i≤13∧(∀r∈l.take i,lightR r=true)∧m=l.length-i) ?_ l.length ?_) ?_
 ·rintro m ⟨tt,g,q⟩ ⟨e2,e1,g0,g1,g2,i,g7,hi,h13,hall,rfl⟩
  dsimp only at e1 e2 g0 g1 g2 g7
  subst e2
  by_cases c4:(i:Int)<(l.length:Nat)
  ·by_cases c5:(i:Int)≤12
   ·have hil:i<l.length:=by omega
    obtain ⟨x,hx⟩:∃x,l[i]? = some x:=⟨_,List.getElem?_eq_getElem hil⟩
    obtain ⟨id,off,cc,cs,o,t,ev,hgi,hidl,hk,hle,hE,_⟩:=Sl.at hv hx
    subst ev
    have hgx:=(e1.get id hidl).trans hgi
    have hlt:((cs.drop (off+i*7)).take 7).length=7:=by rw [List.length_take,List.length_drop];omega
    simp -dsimp (disch:=repeat first|rw [nxn]|rw [nxp]|omega) only [go_sem,c4,c5,g0,g1,g2,g7,lv,ov,mv,hil,hgx,hle]
    refine callK_of (lightRC hS (hE.fr e1)) ?_
    rintro r g3 ⟨rfl,f3⟩
    cases hr:lightR x
    ·simp -dsimp (disch:=repeat first|rw [nxn]|rw [nxp]|omega) only [go_sem,hr]
     exact ⟨trivial,e1.trans f3,.inr ⟨trivial,trivial⟩⟩
    ·simp -dsimp (disch:=repeat first|rw [nxn]|rw [nxp]|omega) only [go_sem,hr,g0,g1,g2,g7]
     exact ⟨l.length-(i+1),by omega,trivial,e1.trans f3,trivial,trivial,trivial,i+1,rfl,by omega,by omega,fun r hr'=>(by
      rw [List.take_add_one,hx] at hr'
      rcases List.mem_append.1 hr' with h1 | h1
      ·exact hall r h1
      ·simp at h1;rw [h1];exact hr),rfl⟩
   ·simp -dsimp (disch:=repeat first|rw [nxn]|rw [nxp]|omega) only [go_sem,c4,c5,g0,g1,g2,g7,lv,ov,mv]
    exact ⟨trivial,e1,.inl ⟨trivial,trivial,trivial,fun hh=>absurd hh (by omega)⟩⟩
  ·obtain rfl:i=l.length:=by omega
   rw [List.take_length] at hall
   simp -dsimp (disch:=repeat first|rw [nxn]|rw [nxp]|omega) only [go_sem,c4,g0,g1,g2,g7,lv,ov,mv]
   exact ⟨trivial,e1,.inl ⟨trivial,trivial,trivial,fun hh=>⟨hh,hall⟩⟩⟩
 ·simp -dsimp (disch:=repeat first|rw [nxn]|rw [nxp]|omega) only [go_sem]
  exact ⟨trivial,Fr.refl _,trivial,trivial,trivial,0,rfl,Nat.zero_le _,by decide,fun r hr=>(by simp at hr),rfl⟩
 ·rintro ex ⟨tt,g,q⟩ ⟨rfl,e1,⟨rfl,g0,g1,hall⟩ | ⟨rfl,t6⟩⟩
  ·dsimp only at e1 g0 g1
   by_cases h1:(l.length:Int)≤12
   ·simp -dsimp (disch:=repeat first|rw [nxn]|rw [nxp]|omega) only [go_sem,g0,g1,lv,ov,mv,h1]
    exact ⟨⟨_,rfl,fun _=>hall (by omega)⟩,e1⟩
   ·simp -dsimp (disch:=repeat first|rw [nxn]|rw [nxp]|omega) only [go_sem,g0,g1,lv,ov,mv,h1]
    exact ⟨⟨_,rfl,fun hh=>(by cases hh)⟩,e1⟩
  ·dsimp only at e1 t6
   simp -dsimp (disch:=repeat first|rw [nxn]|rw [nxp]|omega) only [go_sem,t6]
   exact ⟨⟨_,rfl,fun hh=>(by cases hh)⟩,e1⟩
theorem lightMC (hS:Nx S) {h:AH} {v:AV} {a:Int} {l:List Rw} (hv:Sl (fun _=>0) 2 (WaU h) h v l):RnC Tryz.prog S 20 [.agg [.int .i64 a,v],.int .i64 120] h fun r h'=>(∃b,r=.bool b∧(b=true→lightM l))∧Fr h h':=by
 refine RnC.enter' Tryz.f20 _ 43 [.tmp 4] (hS.nx8 _ _ _ (by simp)) bd20 Tryz.func20 rfl rfl rfl ?_
 have lv:=fun g=>Sl.len (P:=Tryz.prog) hv Tryz.underlying41 g
 have ov:=hv.one.2
 have mv:=oneM ov
 simp -dsimp (disch:=repeat first|rw [nxn]|rw [nxp]|omega) only [go_sem,lv,ov,mv]
 generalize hg:h.new (.cells [.int .i64 a,v] true false)=g1
 have n1:g1.nx=h.nx+1:=by rw [←hg];rfl
 have f1:Fr h g1:=by rw [←hg];exact Fr.new _ _
 have q0:g1.get h.nx=some (.cells [.int .i64 a,v] true false):=by rw [←hg];exact AH.get_new_eq rfl
 clear hg
 refine loopK_of (RnL.rounds (Q:=fun ex u=>u.d=[]∧Fr h u.h∧(ex=.exit 0∧u.h.get h.nx=some (.cells [.int .i64 a,v] true false)∧u.t.get 2=some (.ptr h.nx 0)∧u.t.get 1=some (.int .i64 120)∧(l.length≤120→lightM l)∨ex=.ret∧u.t.get 4=some (.bool false)))
  (fun m u=>u.d=[]∧Fr h u.h∧u.h.get h.nx=some (.cells [.int .i64 a,v] true false)∧u.t.get 2=some (.ptr h.nx 0)∧u.t.get 1=some (.int .i64 120)∧∃i:Nat,u.t.get 5=some (.int .i64 (i:Nat))∧i≤l.length∧i≤121∧(∀r∈l.take i,r.folder.length≤120∧r.own.length≤120)∧m=l.length-i) ?_ l.length ?_) ?_
 ·rintro m ⟨tt,g,q⟩ ⟨e2,e1,b0,t2,t1,i,t5,hi,h13,hall,rfl⟩
  dsimp only at e1 e2 b0 t1 t2 t5
  subst e2
  by_cases c4:(i:Int)<(l.length:Nat)
  ·by_cases c5:(i:Int)≤120
   ·have hil:i<l.length:=by omega
    obtain ⟨x,hx⟩:∃x,l[i]? = some x:=⟨_,List.getElem?_eq_getElem hil⟩
    obtain ⟨id,off,cc,cs,o,t,ev,hgi,hidl,hk,hle,⟨w,ew,hw⟩,hj⟩:=Sl.at hv hx
    subst ev
    have hgx:=(e1.get id hidl).trans hgi
    have x0:=hj 0 (by decide)
    have x1:=hj 1 (by decide)
    rw [ew] at x0 x1
    have x0:cs[off+i*2]? = some (.str x.folder):=x0
    have x1:cs[off+i*2+1]? = some w:=x1
    have hl1:off+i*2+1≤cs.length:=by omega
    have lw:=fun g=>Fl.len (P:=Tryz.prog) hw Tryz.underlying82 (by decide) (one_len x.own) g
    have ow:=hw.one.2
    have mw:=oneM ow
    by_cases h1:(120:Int)<(x.folder.length:Nat)
    ·simp -dsimp (disch:=repeat first|rw [nxn]|rw [nxp]|omega) only [go_sem,c4,c5,b0,t1,t2,t5,lv,ov,mv,hil,hgx,hle,hl1,x0,x1,lw,ow,mw,evLenS,h1]
     exact ⟨trivial,e1,.inr ⟨trivial,trivial⟩⟩
    ·by_cases h2:(120:Int)<(x.own.length:Nat)
     ·simp -dsimp (disch:=repeat first|rw [nxn]|rw [nxp]|omega) only [go_sem,c4,c5,b0,t1,t2,t5,lv,ov,mv,hil,hgx,hle,hl1,x0,x1,lw,ow,mw,evLenS,h1,h2]
      exact ⟨trivial,e1,.inr ⟨trivial,trivial⟩⟩
     ·simp -dsimp (disch:=repeat first|rw [nxn]|rw [nxp]|omega) only [go_sem,c4,c5,b0,t1,t2,t5,lv,ov,mv,hil,hgx,hle,hl1,x0,x1,lw,ow,mw,evLenS,h1,h2]
      exact ⟨l.length-(i+1),by omega,trivial,e1,trivial,trivial,trivial,i+1,rfl,by omega,by omega,fun r hr'=>(by
       rw [List.take_add_one,hx] at hr'
       rcases List.mem_append.1 hr' with h1 | h1
       ·exact hall r h1
       ·simp at h1;rw [h1];omega),rfl⟩
   ·simp -dsimp (disch:=repeat first|rw [nxn]|rw [nxp]|omega) only [go_sem,c4,c5,b0,t1,t2,t5,lv,ov,mv]
    exact ⟨trivial,e1,.inl ⟨trivial,trivial,trivial,trivial,fun hh=>absurd hh (by omega)⟩⟩
  ·obtain rfl:i=l.length:=by omega
   rw [List.take_length] at hall
   simp -dsimp (disch:=repeat first|rw [nxn]|rw [nxp]|omega) only [go_sem,c4,b0,t1,t2,t5,lv,ov,mv]
   exact ⟨trivial,e1,.inl ⟨trivial,trivial,trivial,trivial,fun hh=>⟨hh,hall⟩⟩⟩
 ·simp -dsimp (disch:=repeat first|rw [nxn]|rw [nxp]|omega) only [go_sem]
  exact ⟨trivial,f1,q0,trivial,trivial,0,rfl,Nat.zero_le _,by decide,fun r hr=>(by simp at hr),rfl⟩
 ·rintro ex ⟨tt,g,q⟩ ⟨rfl,e1,⟨rfl,b0,t2,t1,hall⟩ | ⟨rfl,t6⟩⟩
  ·dsimp only at e1 b0 t2 t1
   by_cases h1:(l.length:Int)≤120
   ·simp -dsimp (disch:=repeat first|rw [nxn]|rw [nxp]|omega) only [go_sem,b0,t2,t1,lv,ov,mv,h1]
    exact ⟨⟨_,rfl,fun _=>hall (by omega)⟩,e1⟩
   ·simp -dsimp (disch:=repeat first|rw [nxn]|rw [nxp]|omega) only [go_sem,b0,t2,t1,lv,ov,mv,h1]
    exact ⟨⟨_,rfl,fun hh=>(by cases hh)⟩,e1⟩
  ·dsimp only at e1 t6
   simp -dsimp (disch:=repeat first|rw [nxn]|rw [nxp]|omega) only [go_sem,t6]
   exact ⟨⟨_,rfl,fun hh=>(by cases hh)⟩,e1⟩
end
end Go.Proofs.YtihigekgnnoejaaGreatDoor.mdl
end