/- Texts joined: TCd, TCe, TCf, TCg, TCh. -/
import Derived.Test.YtaooopaemphfjaaGreatDoorH1
set_option maxRecDepth 100000
set_option linter.unusedVariables false
set_option linter.unusedSimpArgs false
set_option maxHeartbeats 8000000
section
namespace Go.Proofs.YtaooopaemphfjaaGreatDoor.tre
open Go Go.Abs Go.Proofs
theorem setN {h:AH} {m:Nat} {ρ:Nat→Nat} {E:Ixs} (hm:∃bs ck,h.get m=some (.map (enS (mapS (fpt ρ) E)) bs ck)) (k:Pth) (i:Nat):∃bs' ck',evMapUpdate Tryz.prog h 60 (.map m) (.str k) (.ptr (ρ i) 0)=some (.skip (h.put m (.map (enS (mapS (fpt ρ) (updS E k i))) bs' ck'))):=by
 obtain ⟨bs,ck,hm⟩:=hm
 obtain ⟨b,c,h1⟩:=setS Tryz.underlying60 Tryz.underlying9 hm k (.ptr (ρ i) 0)
 rw [show AV.ptr (ρ i) 0=fpt ρ i from rfl,mapS_upd] at h1
 exact ⟨b,c,h1⟩
theorem rmN {h:AH} {m:Nat} {ρ:Nat→Nat} {E:Ixs} (hm:∃bs ck,h.get m=some (.map (enS (mapS (fpt ρ) E)) bs ck)) (k:Pth) :
  ∃h',evDelete Tryz.prog h #[60,9] (.map m) (.str k)=some (.val (.tup []) h')∧h'.nx=h.nx∧(∃bs ck,h'.get m=some (.map (enS (mapS (fpt ρ) (delS E k))) bs ck))∧∀j,j≠m→h'.get j=h.get j:=by
 obtain ⟨bs,ck,hm⟩:=hm
 obtain ⟨b,h',h1,h2,h3,h4⟩:=rmS (ats:=#[60,9]) rfl Tryz.underlying60 Tryz.underlying9 hm k
 rw [mapS_del] at h3
 exact ⟨h',h1,h2,⟨b,ck,h3⟩,h4⟩
section
variable {S : Sums}
def Dn (m:Nat) (ρ:Nat→Nat) (h:AH) (E:Ixs) (r:AV) (h':AH):Prop:=r=.tup []∧(∃bs ck,h'.get m=some (.map (enS (mapS (fpt ρ) E)) bs ck))∧h'.nx=h.nx∧∀j,j≠m→h'.get j=h.get j
theorem cloE (hS:St S) {K:Nat→Nat} {h:AH} {m:Nat} {ρ:Nat→Nat} {v:AV} {E:Ixs} (hm:∃bs ck,h.get m=some (.map (enS (mapS (fpt ρ) E)) bs ck)):∀ {n:Nte},Clo K h ρ v n→∃fn cs,v=.func (.func fn) [] cs∧bodied Tryz.prog fn=true∧RnC Tryz.prog S fn (.map m::cs) h (Dn m ρ h (doN n E))
 | .mk p i,⟨a,b,e1,e2,e3,e4,e5⟩=>by
  refine ⟨_,_,e1,bd131,?_⟩
  refine RnC.enter' Tryz.f131 _ 7 [] (hS.nt _ _ _ (by simp)) bd131 Tryz.func131 rfl rfl rfl ?_
  obtain ⟨bs',ck',hu⟩:=setN hm p i
  simp -dsimp (disch:=(repeat first | rw [nxn] | rw [nxp]);try omega) only [go_sem,evLen,e2,e3,hu]
  exact ⟨rfl,⟨bs',ck',AH.get_put_eq rfl⟩,rfl,fun j hj=>AH.get_put_ne hj⟩
 | .ren x y,⟨a,b,e1,e2,e3,e4,e5⟩=>by
  refine ⟨_,_,e1,bd133,?_⟩
  refine RnC.enter' Tryz.f133 _ 15 [] (hS.nt _ _ _ (by simp)) bd133 Tryz.func133 rfl rfl rfl ?_
  have lk:=lookN hm x
  have hma:a≠m:=fun hh=>by
   obtain ⟨bs,ck,hm⟩:=hm
   rw [hh,hm] at e2;cases e2
  cases hv:valS E x with
  | none =>
   rw [hv] at lk
   simp -dsimp (disch:=(repeat first | rw [nxn] | rw [nxp]);try omega) only [go_sem,evLen,e2,lk,nilP']
   exact ⟨rfl,by simpa [doN,hv] using hm,rfl,fun _ _=>rfl⟩
  | some i =>
   rw [hv] at lk
   obtain ⟨bs',ck',hu⟩:=setN hm y i
   obtain ⟨h',hd,hn,hm',ho⟩:=rmN (h:=h.put m (.map (enS (mapS (fpt ρ) (updS E y i))) bs' ck')) ⟨bs',ck',AH.get_put_eq rfl⟩ x
   simp -dsimp (disch:=(repeat first | rw [nxn] | rw [nxp]);try omega) only [go_sem,evLen,e2,e3,lk,nilQ',hu,hd,hma]
   exact ⟨rfl,by simpa [doN,hv] using hm',hn,fun j hj=>(ho j hj).trans (AH.get_put_ne hj)⟩
 | .rm p,⟨a,e1,e2,e3⟩=>by
  refine ⟨_,_,e1,bd103,?_⟩
  refine RnC.enter' Tryz.f103 _ 5 [] (hS.nt _ _ _ (by simp)) bd103 Tryz.func103 rfl rfl rfl ?_
  obtain ⟨h',hd,hn,hm',ho⟩:=rmN hm p
  simp -dsimp (disch:=(repeat first | rw [nxn] | rw [nxp]);try omega) only [go_sem,evLen,e2,hd]
  exact ⟨rfl,hm',hn,ho⟩
theorem ai66:appI Tryz.prog 135=some (1,8):=by kernel_rfl
theorem Chs.app {K:Nat→Nat} {h:AH} {ρ:Nat→Nat} {v cv:AV} {l:List Nte} {id1:Nat} {c:Option Nat} {o t:Bool} (hs:Chs K h ρ cv l) (hl:l.length≤1073741824) (hid:h.get id1=some (.cells [v] o t)) (ov:oneA v=true) :
  ∃h' cs,evAppend Tryz.prog h #[61,61] cv (.sl id1 0 1 1 c)=some (.val (.sl h.nx 0 (l.length+1) 1 none) h')∧h'.nx=h.nx+1∧(∀j,j<h.nx→K j≠6→h'.get j=h.get j)∧h'.get h.nx=some (.cells (cs++[v]) true false)∧cs.length=l.length∧cs.all oneA=true∧∀(i:Nat) x,l[i]? = some x→∃c,cs[i]? = some c∧Clo K h ρ c x:=by
 have hnew:firstA h 1 1 (.sl id1 0 1 1 c)=some [v]:=by
  rw [firstA_sl hid (Nat.le_refl _) (by simp)];rfl
 have hov:[v].all oneA=true:=by simp [ov]
 rcases hs with ⟨rfl,rfl⟩ | ⟨id,cs,rfl,h2,h3,h4,h5,h6,h7⟩
 ·rw [evAppend_eq (len:=0) (old:=[]) Tryz.underlying61 Tryz.underlying61 rfl ai66 rfl hnew rfl rfl hov (by omega) (by omega) rfl]
  rw [if_neg (by decide)]
  exact ⟨_,[],rfl,by simp,fun j hj _=>by rw [AH.get_new,if_neg (by omega)],AH.get_new_eq rfl,rfl,rfl,fun i x hx=>by simp at hx⟩
 ·have hold:firstA h 1 l.length (.sl id 0 l.length 1 none)=some cs:=by
   rw [firstA_sl h2 (Nat.le_refl _) (by omega),List.drop_zero,Nat.mul_one,←h5,List.take_length]
  rw [evAppend_eq (len:=l.length) Tryz.underlying61 Tryz.underlying61 rfl ai66 rfl hnew rfl hold hov (by omega) (by omega) rfl]
  rw [if_neg (by decide)]
  simp only
  rw [if_pos (by simp [ownBlock,h2])]
  have ht:(textBlock h id||!(Nat.beq 0 0))=false:=by simp [textBlock,h2]
  rw [ht]
  refine ⟨_,cs,rfl,by simp,fun j hj hk=>?_,?_,h5,h6,h7⟩
  ·rw [AH.get_new,if_neg (by simp;omega),AH.get_del,if_neg (fun hh=>hk (by rw [hh];exact h4))]
  ·exact AH.get_new_eq (h:=h.del id) rfl
theorem changeC (hS:St S) {K p nm sm chv ρ h T} (hT:Tr K p nm sm chv ρ h T) {v:AV} {n:Nte} (hc:Clo K h ρ v n) (hn:NteOK T.files.length n) (hl:T.notes.length≤1048576) :
  RnC Tryz.prog S 102 [.ptr p 0,v] h fun r h'=>r=.tup []∧∃K' chv',Tr K' p nm sm chv' ρ h' (noteT T n)∧Gr K h K' h'∧∀j,j<h.nx→K' j=K j:=by
 refine RnC.enter' Tryz.f102 _ 20 [] (hS.nt _ _ _ (by simp)) bd102 Tryz.func102 rfl rfl rfl ?_
 have hpl:p<h.nx:=hT.lt (by rw [hT.kp];decide)
 have hp:=hT.pp
 obtain ⟨fn,cs,rfl,hb,hr⟩:=cloE hS hT.now hc
 have oc:=hT.ch.shape.2.2
 simp -dsimp (disch:=(repeat first | rw [nxn] | rw [nxp]);try omega) only [go_sem,hp,hb]
 refine callK_of hr ?_
 rintro r h2 ⟨rfl,hm2,hn2,ho2⟩
 have hpn:p≠nm:=fun hh=>by have:=hT.kp;rw [hh,hT.kn] at this;cases this
 have hp2:h2.get p=_:=(ho2 p hpn).trans hp
 have k5:∀j,K j=5→K j=5∧h2.get j=h.get j:=fun j hj=>⟨hj,ho2 j (fun hh=>by rw [hh,hT.kn] at hj;cases hj)⟩
 have k6:∀j,K j=6→K j=6∧h2.get j=h.get j:=fun j hj=>⟨hj,ho2 j (fun hh=>by rw [hh,hT.kn] at hj;cases hj)⟩
 have ch2:Chs K h2 ρ chv T.notes:=hT.ch.mono (n:=T.files.length) k5 k6 (by omega) (fun _ _=>rfl) hT.wf.notes
 have ch3:Chs K (h2.new (.cells [.func (.func fn) [] cs] true false)) ρ chv T.notes:=by
  refine ch2.mono (n:=T.files.length) (fun j hj=>⟨hj,?_⟩) (fun j hj=>⟨hj,?_⟩) (Nat.le_succ _) (fun _ _=>rfl) hT.wf.notes
  ·rw [AH.get_new,if_neg]
   have:=hT.lt (j:=j) (by omega)
   omega
  ·rw [AH.get_new,if_neg]
   have:=hT.lt (j:=j) (by omega)
   omega
 obtain ⟨h4,cs4,ha,hn4,hk4,hg4,hl4,ho4,hcl4⟩:=Chs.app (c:=some 1) ch3 (by omega) (AH.get_new_eq rfl) rfl
 have hn4':h4.nx=h.nx+2:=by rw [hn4];simp [hn2]
 have hnx3:(h2.new (.cells [.func (.func fn) [] cs] true false)).nx=h.nx+1:=by simp [hn2]
 rw [hnx3] at ha hg4
 have hp4:h4.get p=_:=(hk4 p (by rw [hnx3];omega) (by rw [hT.kp];decide)).trans ((AH.get_new_ne (by omega)).trans hp2)
 simp -dsimp (disch:=(repeat first | rw [nxn] | rw [nxp]);try omega) only [go_sem,hp2,oc,ha,hp4]
 have hlo:∀j,j<h.nx→K j≠6→j≠nm→j≠p→∀o,(h4.put p o).get j=h.get j:=fun j hj h6 hjn hjp o =>
  (AH.get_put_ne hjp).trans ((hk4 j (by rw [hnx3];omega) h6).trans ((AH.get_new_ne (by omega)).trans (ho2 j hjn)))
 have kk:∀j,j<h.nx→(if j=h.nx+1 then 6 else K j)=K j:=fun j hj=>if_neg (by omega)
 refine ⟨trivial,fun j=>if j=h.nx+1 then 6 else K j,.sl (h.nx+1) 0 (T.notes.length+1) 1 none,?_,⟨?_,fun j hj hk=>⟨?_,?_⟩⟩,kk⟩
 ·have hlk:∀ {j},K j≠0→j<h.nx:=fun {j} hj=>hT.lt hj
  have k5':∀o,∀j,K j=5→(if j=h.nx+1 then 6 else K j)=5∧(h4.put p o).get j=h.get j:=fun o j hj=>by
   have hjl:=hlk (j:=j) (by omega)
   refine ⟨by rw [kk j hjl];exact hj,hlo j hjl (by omega) (fun hh=>by rw [hh,hT.kn] at hj;cases hj) (fun hh=>by rw [hh,hT.kp] at hj;cases hj) o⟩
  obtain ⟨bm,cm,hm2⟩:=hm2
  have hnml:=hlk (j:=nm) (by rw [hT.kn];decide)
  refine ⟨AH.get_put_eq rfl,⟨bm,cm,?_⟩,?_,.inr ⟨h.nx+1,cs4++[.func (.func fn) [] cs],by simp [noteT],?_,?_,if_pos rfl,by simp [noteT,hl4],by simp [ho4,oneA],fun i x hx=>?_⟩,fun i hi=>?_,hT.inj,?_,?_,?_,fun j hj=>?_,hT.wf.note hn⟩
  ·exact (AH.get_put_ne hpn.symm).trans ((hk4 nm (by rw [hnx3];omega) (by rw [hT.kn];decide)).trans ((AH.get_new_ne (by omega)).trans hm2))
  ·obtain ⟨b3,c3,h3⟩:=hT.safe
   exact ⟨b3,c3,(hlo sm (hlk (by rw [hT.ks];decide)) (by rw [hT.ks];decide) (fun hh=>by have:=hT.ks;rw [hh,hT.kn] at this;cases this) (fun hh=>by have:=hT.ks;rw [hh,hT.kp] at this;cases this) _).trans h3⟩
  ·exact (AH.get_put_ne (by omega)).trans hg4
  ·show h.nx+1<h4.nx
   omega
  ·have hxl:i<T.notes.length+1:=by
    have:=(List.getElem?_eq_some_iff.1 hx).1
    simpa [noteT] using this
   by_cases hi:i<T.notes.length
   ·have hx':T.notes[i]? = some x:=by
     have:(T.notes++[n])[i]? = some x:=hx
     rwa [List.getElem?_append_left hi] at this
    obtain ⟨c,e1,e2⟩:=hcl4 i x hx'
    refine ⟨c,by rw [List.getElem?_append_left (by omega)];exact e1,Clo.mono (K:=K) (h:=h2.new (.cells [.func (.func fn) [] cs] true false)) (n:=T.files.length) (fun j hj=>?_) (fun _ _=>rfl) (hT.wf.notes x (List.mem_iff_getElem?.2 ⟨i,hx'⟩)) e2⟩
    have hjl:=hlk (j:=j) (by omega)
    refine ⟨(k5' (.defs true) j hj).1,?_⟩
    rw [(k5' _ j hj).2,AH.get_new,if_neg (by omega),(k5 j hj).2]
   ·have:i=T.notes.length:=by omega
    subst this
    have hx':x=n:=by
     have:(T.notes++[n])[T.notes.length]? = some x:=hx
     rw [List.getElem?_append_right (Nat.le_refl _)] at this
     simp at this
     exact this.symm
    subst hx'
    refine ⟨.func (.func fn) [] cs,by rw [List.getElem?_append_right (by omega)];simp [hl4],Clo.mono (n:=T.files.length) (k5' _) (fun _ _=>rfl) hn hc⟩
  ·obtain ⟨bv,sv,q1,q2,q3,q4⟩:=hT.fl i hi
   have hjl:=hlk (j:=ρ i) (by omega)
   exact ⟨bv,sv,(hlo _ hjl (by omega) (fun hh=>by rw [hh,hT.kn] at q4;cases q4) (fun hh=>by rw [hh,hT.kp] at q4;cases q4) _).trans q1,q2.mono (k5' _) (by show h.nx≤h4.nx;omega),q3.mono (k5' _) (by show h.nx≤h4.nx;omega),(kk _ hjl).trans q4⟩
  ·exact (kk p hpl).trans hT.kp
  ·exact (kk nm hnml).trans hT.kn
  ·exact (kk sm (hlk (by rw [hT.ks];decide))).trans hT.ks
  ·have hj2:h.nx+2≤j:=by
    have:h4.nx≤j:=hj
    omega
   show (if j=h.nx+1 then 6 else K j)=0
   rw [if_neg (by omega)]
   exact hT.top j (by omega)
 ·show h.nx≤h4.nx
  omega
 ·exact hlo j hj (by omega) (fun hh=>by rw [hh,hT.kn] at hk;cases hk) (fun hh=>by rw [hh,hT.kp] at hk;cases hk) _
 ·show (if j=h.nx+1 then 6 else K j)=0
  rw [if_neg (by omega)]
  exact hk
theorem doAll_take {l:List Nte} {i:Nat} {x:Nte} (hx:l[i]? = some x) (E:Ixs):doAll (l.take (i+1)) E=doN x (doAll (l.take i) E):=by
 have key:∀(l:List Nte) (E:Ixs) (y:Nte),doAll (l++[y]) E=doN y (doAll l E):=fun l=>by
  induction l with
  | nil=>intro E y;rfl
  | cons a r ih=>intro E y;exact ih (doN a E) y
 have:l.take (i+1)=l.take i++[x]:=by rw [List.take_add_one,hx];rfl
 rw [this,key]
theorem Tr.setSafe {K p nm sm chv ρ h T} (hT:Tr K p nm sm chv ρ h T) {h':AH} {E:Ixs} (hE:IxOK T.files.length E) (hm:∃bs ck,h'.get sm=some (.map (enS (mapS (fpt ρ) E)) bs ck)) (hn:h'.nx=h.nx) (ho:∀j,j≠sm→h'.get j=h.get j) :
  Tr K p nm sm chv ρ h' { T with safe:=E }:=by
 have ne:∀ {j n},K j=n→n≠3→h'.get j=h.get j:=fun {j n} hj h0=>ho j (fun hh=>by rw [hh,hT.ks] at hj;omega)
 have k5:∀j,K j=5→K j=5∧h'.get j=h.get j:=fun j hj=>⟨hj,ne hj (by omega)⟩
 have k6:∀j,K j=6→K j=6∧h'.get j=h.get j:=fun j hj=>⟨hj,ne hj (by omega)⟩
 obtain ⟨h1,⟨b2,c2,h2⟩,h3,h4,h5,h6,h7,h8,h9,h10,w⟩:=hT
 refine ⟨(ne h7 (by omega)).trans h1,⟨b2,c2,(ne h8 (by omega)).trans h2⟩,hm,h4.mono (n:=T.files.length) k5 k6 (by omega) (fun _ _=>rfl) w.notes,fun i hi=>?_,h6,h7,h8,h9,fun j hj=>h10 j (by omega),⟨w.1,hE,w.3,w.4,w.5,w.6⟩⟩
 obtain ⟨bv,sv,q1,q2,q3,q4⟩:=h5 i hi
 exact ⟨bv,sv,(ne q4 (by omega)).trans q1,q2.mono k5 (by omega),q3.mono k5 (by omega),q4⟩
theorem Tr.clr {K p nm sm chv ρ h T} (hT:Tr K p nm sm chv ρ h T):Tr K p nm sm .nilsl ρ (h.put p (.cells [.bool true,.int .i64 T.room,.map nm,.map sm,.nilsl,.int .u64 (T.clock:Nat),.bool T.off,.int .i64 T.fuse] true false)) { T with notes:=[] }:=by
 have ne:∀ {j n} o,K j=n→n≠1→(h.put p o).get j=h.get j:=fun {j n} o hj h0=>AH.get_put_ne (fun hh=>by rw [hh,hT.kp] at hj;omega)
 obtain ⟨h1,⟨b2,c2,h2⟩,⟨b3,c3,h3⟩,h4,h5,h6,h7,h8,h9,h10,w⟩:=hT
 refine ⟨AH.get_put_eq rfl,⟨b2,c2,(ne _ h8 (by omega)).trans h2⟩,⟨b3,c3,(ne _ h9 (by omega)).trans h3⟩,.inl ⟨rfl,rfl⟩,fun i hi=>?_,h6,h7,h8,h9,h10,⟨w.1,w.2,fun n hn=>by simp at hn,w.4,w.5,w.6⟩⟩
 exact (h5 i hi).mono (fun j hj=>⟨hj,ne _ hj (by omega)⟩) (by obtain ⟨bv,sv,q1,q2,q3,q4⟩:=h5 i hi;exact ⟨q4,ne _ q4 (by omega)⟩) (Nat.le_refl _)
theorem keepC (hS:St S) {K p nm sm chv ρ h T} (hT:Tr K p nm sm chv ρ h T) {n:Nat} (hn:n≤T.notes.length) (hl:T.notes.length≤1048576) :
  RnC Tryz.prog S 47 [.ptr p 0,.int .i64 (n:Nat)] h fun r h'=>r=.tup []∧Tr K p nm sm .nilsl ρ h' (keepT T n)∧h'.nx=h.nx∧∀j,K j=0→h'.get j=h.get j:=by
 refine RnC.enter' Tryz.f47 _ 27 [] (hS.nt _ _ _ (by simp)) bd47 Tryz.func47 rfl rfl rfl ?_
 have hp:=hT.pp
 obtain ⟨lc,_,oc⟩:=hT.ch.shape
 obtain ⟨w,hsl,lw,hw,ow⟩:∃w,(∀g,evSlice Tryz.prog g 61 chv none (some (.int .i64 (n:Nat))) none=some w)∧(∀g,evLen Tryz.prog g #[61] w=some (.int .i64 (n:Nat)))∧(n=0∨∃id cs,w=.sl id 0 n 1 none∧h.get id=some (.cells cs true false)∧K id=6∧∀(i:Nat) t,T.notes[i]? = some t→∃c,cs[i]? = some c∧Clo K h ρ c t)∧oneA w=true:=by
  rcases hT.ch with ⟨rfl,h0⟩ | ⟨id,cs,rfl,h2,h3,h4,h5,h6,h7⟩
  ·rw [h0] at hn
   obtain rfl:n=0:=by simpa using hn
   exact ⟨.nilsl,fun g=>by simp [evSlice,Tryz.underlying61,tz135,boundsA,boundA,upTo],fun g=>by simp [evLen,Tryz.underlying61],.inl rfl,rfl⟩
  ·have hu:upTo ((n:Nat):Int) T.notes.length=some n:=by rw [upTo_of (by omega) (by omega)];simp
   refine ⟨.sl id 0 n 1 none,fun g=>?_,fun g=>by simp [evLen,Tryz.underlying61],.inr ⟨id,cs,rfl,h2,h4,h7⟩,rfl⟩
   simp [evSlice,Tryz.underlying61,tz135,boundsA,boundA,hu]
 simp -dsimp (disch:=(repeat first | rw [nxn] | rw [nxp]);try omega) only [go_sem,hp,oc,hsl,lw]
 refine loopK_of (RnL.rounds (Q:=fun ex u=>ex=.exit 0∧u.d=[]∧u.t.get 0=some (.ptr p 0)∧u.h.nx=h.nx∧(∀j,j≠sm→u.h.get j=h.get j)∧∃bs ck,u.h.get sm=some (.map (enS (mapS (fpt ρ) (doAll (T.notes.take n) T.safe))) bs ck))
  (fun m u=>u.d=[]∧u.t.get 0=some (.ptr p 0)∧u.t.get 11=some w∧u.t.get 12=some (.int .i64 (n:Nat))∧u.h.nx=h.nx∧(∀j,j≠sm→u.h.get j=h.get j)∧∃i:Nat,u.t.get 13=some (.int .i64 (i:Nat))∧i≤n∧(∃bs ck,u.h.get sm=some (.map (enS (mapS (fpt ρ) (doAll (T.notes.take i) T.safe))) bs ck))∧m=n-i) ?_ n ?_) ?_
 ·rintro m ⟨t,h1,d⟩ ⟨e2,g0,g11,g12,en,eo,i,g13,hi,hm,rfl⟩
  dsimp only at e2 g0 g11 g12 g13 en eo hm
  subst e2
  by_cases c4:(i:Int)<(n:Nat)
  ·have hil:i<n:=by omega
   obtain ⟨x,hx⟩:∃x,T.notes[i]? = some x:=⟨_,List.getElem?_eq_getElem (by omega)⟩
   rcases hw with h0 | ⟨id,cs,rfl,hg,hk,hcl⟩
   ·omega
   obtain ⟨cv,hcv,hclo⟩:=hcl i x hx
   have hne:∀ {j k},K j=k→k≠3→h1.get j=h.get j:=fun {j k} hj h0=>eo j (fun hh=>by rw [hh,hT.ks] at hj;omega)
   have hg1:h1.get id=some (.cells cs true false):=(hne hk (by omega)).trans hg
   have hp1:=(hne hT.kp (by omega)).trans hp
   have hclo1:Clo K h1 ρ cv x:=hclo.mono (n:=T.files.length) (fun j hj=>⟨hj,hne hj (by omega)⟩) (fun _ _=>rfl) (hT.wf.notes x (List.mem_iff_getElem?.2 ⟨i,hx⟩))
   obtain ⟨fn,cs',rfl,hb,hr⟩:=cloE hS hm hclo1
   simp -dsimp (disch:=(repeat first | rw [nxn] | rw [nxp]);try omega) only [go_sem,c4,hil,hg1,hcv,hp1,hb,Nat.mul_one,g0,g11,g12,g13]
   refine callK_of hr ?_
   rintro r h2 ⟨rfl,hm2,hn2,ho2⟩
   refine ⟨n-(i+1),by omega,trivial,trivial,trivial,trivial,hn2.trans en,fun j hj=>(ho2 j hj).trans (eo j hj),i+1,rfl,by omega,?_,rfl⟩
   rw [doAll_take hx]
   exact hm2
  ·have:i=n:=by omega
   subst this
   simp -dsimp (disch:=(repeat first | rw [nxn] | rw [nxp]);try omega) only [go_sem,c4,g0,g11,g12,g13]
   exact ⟨trivial,trivial,trivial,en,eo,hm⟩
 ·simp -dsimp (disch:=(repeat first | rw [nxn] | rw [nxp]);try omega) only [go_sem,lw,ow]
  exact ⟨trivial,trivial,trivial,trivial,trivial,fun _ _=>trivial,0,rfl,Nat.zero_le _,hT.safe,rfl⟩
 ·rintro ex ⟨t,h1,d⟩ ⟨rfl,rfl,g0,en,eo,hm⟩
  dsimp only at g0 en eo hm
  have hps:p≠sm:=fun hh=>by have:=hT.kp;rw [hh,hT.ks] at this;cases this
  have hp1:=(eo p hps).trans hp
  simp -dsimp (disch:=(repeat first | rw [nxn] | rw [nxp]);try omega) only [go_sem,hp1,g0]
  have hT1:=hT.setSafe (hT.wf.safe.doAll (l:=T.notes.take n) fun t ht=>hT.wf.notes t (List.mem_of_mem_take ht)) hm en eo
  exact ⟨trivial,hT1.clr,en,fun j hj=>(AH.get_put_ne (fun hh=>by rw [hh,hT.kp] at hj;cases hj)).trans (eo j (fun hh=>by rw [hh,hT.ks] at hj;cases hj))⟩
end
theorem mapS_congr {n:Nat} {ρ ρ':Nat→Nat} (hr:∀i,i<n→ρ' i=ρ i):∀ {E:Ixs},IxOK n E→mapS (fpt ρ') E=mapS (fpt ρ) E
 | [],_=>rfl
 | e::r,⟨⟨h1,h2⟩,h3⟩=>by
  have e1:e.2<n:=(h3 e.1 e.2 (by unfold valS;rw [if_pos rfl])).1
  have ih:=mapS_congr hr (E:=r) ⟨h2,fun k i hk=>h3 k i (by
   unfold valS
   rw [if_neg (fun hh=>by rw [←hh,h1] at hk;cases hk)]
   exact hk)⟩
  show (e.1,fpt ρ' e.2)::mapS (fpt ρ') r=(e.1,fpt ρ e.2)::mapS (fpt ρ) r
  rw [ih]
  unfold fpt
  rw [hr _ e1]
theorem fil_set {T T':TT} {i j:Nat} {f:Fil} (e:T'.files=T.files.set i f) (hi:i<T.files.length):T'.fil j=if j=i then f else T.fil j:=by
 unfold TT.fil
 rw [e,List.getElem?_set]
 by_cases h:i=j
 ·subst h;simp [hi]
 ·rw [if_neg h,if_neg (fun hh=>h hh.symm)]
theorem fil_add {T T':TT} {j:Nat} {f:Fil} (e:T'.files=T.files++[f]):T'.fil j=if j=T.files.length then f else T.fil j:=by
 unfold TT.fil
 rw [e]
 by_cases h:j<T.files.length
 ·rw [List.getElem?_append_left h,if_neg (by omega)]
 ·by_cases h2:j=T.files.length
  ·rw [if_pos h2,List.getElem?_append_right (by omega),h2];simp
  ·rw [if_neg h2,List.getElem?_eq_none (by simp;omega),List.getElem?_eq_none (by omega)]
theorem Tr.file {K K':Nat→Nat} {p nm sm chv ρ h T} (hT:Tr K p nm sm chv ρ h T) {i:Nat} (hi:i<T.files.length) {f:Fil} {h':AH} (hk:∀j,K j≠0→K' j=K j∧(j≠ρ i→h'.get j=h.get j)) (hf:FilA K' h' (ρ i) f) (hn:h.nx≤h'.nx) (top:∀j,h'.nx≤j→K' j=0)
  (w:Wf { T with files:=T.files.set i f }):Tr K' p nm sm chv ρ h' { T with files:=T.files.set i f }:=by
 have k4:K (ρ i)=4:=by obtain ⟨bv,sv,q1,q2,q3,q4⟩:=hT.fl i hi;exact q4
 have ne:∀ {j n},K j=n→n≠0→n≠4→K' j=n∧h'.get j=h.get j:=fun {j n} hj h0 h4=>by
  obtain ⟨e1,e2⟩:=hk j (by omega)
  exact ⟨e1.trans hj,e2 (fun hh=>by rw [hh,k4] at hj;omega)⟩
 have k5:∀j,K j=5→K' j=5∧h'.get j=h.get j:=fun j hj=>ne hj (by omega) (by omega)
 have k6:∀j,K j=6→K' j=6∧h'.get j=h.get j:=fun j hj=>ne hj (by omega) (by omega)
 obtain ⟨h1,⟨b2,c2,h2⟩,⟨b3,c3,h3⟩,h4,h5,h6,h7,h8,h9,h10,w0⟩:=hT
 have el:(T.files.set i f).length=T.files.length:=by simp
 refine ⟨(ne h7 (by omega) (by omega)).2.trans h1,⟨b2,c2,(ne h8 (by omega) (by omega)).2.trans h2⟩,⟨b3,c3,(ne h9 (by omega) (by omega)).2.trans h3⟩,h4.mono (n:=T.files.length) k5 k6 hn (fun _ _=>rfl) w0.notes,fun j hj=>?_,by rw [el];exact h6,(ne h7 (by omega) (by omega)).1,(ne h8 (by omega) (by omega)).1,(ne h9 (by omega) (by omega)).1,top,w⟩
 have hj':j<T.files.length:=by simpa using hj
 have ef:=fil_set (T:=T) (T':={ T with files:=T.files.set i f }) (j:=j) rfl hi
 rw [ef]
 by_cases hji:j=i
 ·rw [if_pos hji,hji];exact hf
 ·rw [if_neg hji]
  obtain ⟨bv,sv,q1,q2,q3,q4⟩:=h5 j hj'
  have hne:ρ j≠ρ i:=fun hh=>hji (h6 j i hj' hi hh)
  obtain ⟨e1,e2⟩:=hk (ρ j) (by omega)
  exact ⟨bv,sv,(e2 hne).trans q1,q2.mono k5 hn,q3.mono k5 hn,e1.trans q4⟩
theorem Tr.addF {K K':Nat→Nat} {p nm sm chv ρ h T} (hT:Tr K p nm sm chv ρ h T) {id:Nat} {f:Fil} {h':AH} (hk:∀j,K j≠0→K' j=K j∧h'.get j=h.get j) (hid:K id=0) (hf:FilA K' h' id f) (hn:h.nx≤h'.nx) (top:∀j,h'.nx≤j→K' j=0)
  (w:Wf { T with files:=T.files++[f] }):Tr K' p nm sm chv (fun j=>if j=T.files.length then id else ρ j) h' { T with files:=T.files++[f] }:=by
 have ne:∀ {j n},K j=n→n≠0→K' j=n∧h'.get j=h.get j:=fun {j n} hj h0=>by
  obtain ⟨e1,e2⟩:=hk j (by omega)
  exact ⟨e1.trans hj,e2⟩
 have k5:∀j,K j=5→K' j=5∧h'.get j=h.get j:=fun j hj=>ne hj (by omega)
 have k6:∀j,K j=6→K' j=6∧h'.get j=h.get j:=fun j hj=>ne hj (by omega)
 have hr:∀i,i<T.files.length→(if i=T.files.length then id else ρ i)=ρ i:=fun i hi=>if_neg (by omega)
 obtain ⟨h1,⟨b2,c2,h2⟩,⟨b3,c3,h3⟩,h4,h5,h6,h7,h8,h9,h10,w0⟩:=hT
 have kr:∀i,i<T.files.length→K (ρ i)=4:=fun i hi=>by obtain ⟨bv,sv,q1,q2,q3,q4⟩:=h5 i hi;exact q4
 refine ⟨(ne h7 (by omega)).2.trans h1,⟨b2,c2,?_⟩,⟨b3,c3,?_⟩,h4.mono (n:=T.files.length) k5 k6 hn hr w0.notes,fun j hj=>?_,fun i j hi hj hij=>?_,(ne h7 (by omega)).1,(ne h8 (by omega)).1,(ne h9 (by omega)).1,top,w⟩
 ·rw [mapS_congr (n:=T.files.length) hr w0.now];exact (ne h8 (by omega)).2.trans h2
 ·rw [mapS_congr (n:=T.files.length) hr w0.safe];exact (ne h9 (by omega)).2.trans h3
 ·have ef:=fil_add (T:=T) (T':={ T with files:=T.files++[f] }) (j:=j) rfl
  rw [ef]
  by_cases hj2:j=T.files.length
  ·simp only [hj2,if_true];exact hf
  ·have hj':j<T.files.length:=by
    have:j<(T.files++[f]).length:=hj
    simp at this;omega
   simp only [hj2,if_false]
   obtain ⟨bv,sv,q1,q2,q3,q4⟩:=h5 j hj'
   exact ⟨bv,sv,(ne q4 (by omega)).2.trans q1,q2.mono k5 hn,q3.mono k5 hn,(ne q4 (by omega)).1⟩
 ·have hi':i<T.files.length+1:=by simpa using hi
  have hj':j<T.files.length+1:=by simpa using hj
  by_cases c1:i=T.files.length <;> by_cases c2:j=T.files.length
  ·omega
  ·simp only [c1,if_true,c2,if_false] at hij
   have:=kr j (by omega)
   rw [←hij,hid] at this;cases this
  ·simp only [c1,if_false,c2,if_true] at hij
   have:=kr i (by omega)
   rw [hij,hid] at this;cases this
  ·simp only [c1,if_false,c2] at hij
   exact h6 i j (by omega) (by omega) hij
theorem okP_len {s:Pth} (h:okP s=true):s.length≤69:=by
 have key:∀x:List Nat,checkS x=0→x.length≤64:=fun x hx=>by
  unfold checkS at hx
  by_cases c:64<x.length
  ·rw [if_pos c] at hx;cases hx
  ·omega
 unfold okP tempedS at h
 simp only [Bool.or_eq_true,decide_eq_true_eq,Bool.and_eq_true] at h
 rcases h with h | ⟨_,h⟩
 ·have:=key s h;omega
 ·have:=key _ h
  rw [List.length_drop] at this
  omega
def Res (K:Nat→Nat) (p:Nat) (h h':AH) (T':TT):Prop:=∃K' nm sm chv ρ,Tr K' p nm sm chv ρ h' T'∧Gr K h K' h'
theorem bldF (n:Nat):evBuild Tryz.prog 103 [(2,.int .u64 (n:Int))]=some (.agg [.nilsl,.nilsl,.int .u64 (n:Int)]):=by kernel_rfl
section
variable {S : Sums}
theorem avOne {h:AH} (s:Pth) {id:Nat} {c:Option Nat} {o t:Bool} (hg:h.get id=some (.cells [.str s] o t)) (hl:id<h.nx):Av h (.sl id 0 1 1 c) [s]:=.inr ⟨id,c,o,t,rfl,hg,hl⟩
theorem makeC (hS:St S) {K p nm sm chv ρ h T} (hT:Tr K p nm sm chv ρ h T) (hm:Sm T) (s:Pth) :
  RnC Tryz.prog S 93 [.ptr p 0,.str s] h fun r h'=>r=.int .i64 ((makeT T (okP s) s).1:Nat)∧Res K p h h' (makeT T (okP s) s).2:=by
 refine RnC.enter' Tryz.f93 _ 28 [.tmp 4] (hS.nt _ _ _ (by simp)) bd93 Tryz.func93 rfl rfl rfl ?_
 have hpl:p<h.nx:=hT.lt (by rw [hT.kp];decide)
 simp -dsimp (disch:=(repeat first | rw [nxn] | rw [nxp]);try omega) only [go_sem,evLen]
 refine callK_of (opC hS (hT.fr ((Fr.new h (.cells [.str s] true false)).news (.cells [.str s] true false))) (l:=[s]) (avOne s (AH.get_new_eq rfl) (Nat.lt_succ_self _)) (by simp)) ?_
 have eall:[s].all okP=okP s:=by simp
 rw [eall]
 rintro r h2 ⟨rfl,hT2,hn2,ho2⟩
 have hn2':h.nx+2≤h2.nx:=hn2
 have hcell:h2.get h.nx=some (.cells [.str s] true false):=(ho2 h.nx (by simp;omega) (by omega)).trans ((AH.get_new_ne (by simp)).trans (AH.get_new_eq rfl))
 have gr2:Gr K h K h2:=⟨by omega,fun j hj hk=>⟨(ho2 j (by simp;omega) (fun hh=>by rw [hh,hT.kp] at hk;cases hk)).trans ((AH.get_new_ne (by simp;omega)).trans (AH.get_new_ne (by omega))),hk⟩⟩
 unfold makeT
 dsimp only
 have e1:=(opT_eq T (okP s))
 by_cases c1:(((opT T (okP s)).1:Nat):Int)=0
 ·have c1':(opT T (okP s)).1=0:=by omega
  have c1n:¬((opT T (okP s)).1≠0):=by omega
  rw [if_neg c1n]
  have hp2:=hT2.pp
  have lk:∀n,_:=fun n=>lookN (h:={ tr:=h2.tr,nx:=n }) hT2.now s
  simp -dsimp (disch:=(repeat first | rw [nxn] | rw [nxp]);try omega) only [go_sem,evLen,c1]
  refine syDraw.go0 (by kernel_rfl) ?_
  have f3:Fr h2 { tr:=h2.tr,nx:=h2.nx+7 }:=(Fr.refl h2).more _ (by omega)
  cases hv:valS (opT T (okP s)).2.now s with
  | some i =>
   rw [hv] at lk
   simp -dsimp (disch:=(repeat first | rw [nxn] | rw [nxp]);try omega) only [go_sem,evLen,hp2,hcell,lk,nilQ']
   exact ⟨trivial,K,nm,sm,chv,ρ,hT2.fr f3,gr2.trans (frGr f3 K)⟩
  | none =>
   rw [hv] at lk
   simp -dsimp (disch:=(repeat first | rw [nxn] | rw [nxp]);try omega) only [go_sem,evLen,hp2,hcell,lk,nilP']
   refine callK_of (tickC hS (hT2.fr f3) (by rw [e1.2.2.2.2.1];exact hm.clock)) ?_
   rintro r h3 ⟨rfl,hT3,hn3,ho3⟩
   have hn3':h3.nx=h2.nx+7:=hn3
   simp -dsimp (disch:=(repeat first | rw [nxn] | rw [nxp]);try omega) only [go_sem,evLen,bldF]
   have hT4:=hT3.addF (K':=fun j=>if j=h3.nx then 4 else if j=h3.nx+1 then 5 else if j=h.nx then 5 else K j) (id:=h3.nx) (f:=⟨[],[],(opT T (okP s)).2.clock+1⟩)
    (h':=((h3.new (.cells [.nilsl,.nilsl,.int .u64 (((opT T (okP s)).2.clock+1:Nat):Int)] true false)).new (.cells [.nilptr] true false)).put (h3.nx+1) (.cells [.ptr h3.nx 0] true false))
    (fun j hj=>by
     have hjl:=hT.lt hj
     refine ⟨by rw [if_neg (by omega),if_neg (by omega),if_neg (by omega)],?_⟩
     rw [AH.get_put_ne (by omega),AH.get_new_ne (by simp;omega),AH.get_new_ne (by omega)])
    (hT3.top _ (Nat.le_refl _)) ⟨.nilsl,.nilsl,by rw [AH.get_put_ne (by omega),AH.get_new_ne (by simp),AH.get_new_eq rfl],.inl ⟨rfl,rfl⟩,.inl ⟨rfl,rfl⟩,if_pos rfl⟩ (by simp;omega)
    (fun j hj=>by
     have hj':h3.nx+2≤j:=by simpa using hj
     rw [if_neg (by omega),if_neg (by omega),if_neg (by omega)]
     exact hT3.top j (by omega))
    (Wf.grow hT3.wf _ (FilOK.zero _) _)
   have hlen:(tickT (opT T (okP s)).2).files.length<((tickT (opT T (okP s)).2).files++[(⟨[],[],(opT T (okP s)).2.clock+1⟩:Fil)]).length:=by simp
   have hcl:Clo (fun j=>if j=h3.nx then 4 else if j=h3.nx+1 then 5 else if j=h.nx then 5 else K j) (((h3.new (.cells [.nilsl,.nilsl,.int .u64 (((opT T (okP s)).2.clock+1:Nat):Int)] true false)).new (.cells [.nilptr] true false)).put (h3.nx+1) (.cells [.ptr h3.nx 0] true false)) (fun j=>if j=(tickT (opT T (okP s)).2).files.length then h3.nx else ρ j) (.func (.func 131) [] [.ptr (h3.nx+1) 0,.ptr h.nx 0]) (.mk s (opT T (okP s)).2.files.length):=by
    refine ⟨h3.nx+1,h.nx,rfl,?_,?_,?_,?_⟩
    ·rw [AH.get_put_eq rfl]
     show _=some (AO.cells [.ptr (if (opT T (okP s)).2.files.length=(opT T (okP s)).2.files.length then h3.nx else _) 0] true false)
     rw [if_pos rfl]
    ·rw [AH.get_put_ne (by omega),AH.get_new_ne (by simp;omega),AH.get_new_ne (by omega),ho3 _ (by omega)]
     exact hcell
    ·simp only [if_neg (show ¬h3.nx+1=h3.nx by omega),if_true]
    ·simp only [if_neg (show ¬h.nx=h3.nx by omega),if_neg (show ¬h.nx=h3.nx+1 by omega),if_true]
   refine callK_of (changeC hS hT4 hcl ⟨hlen,okP_len (opT_ok c1n)⟩ (by show (opT T (okP s)).2.notes.length≤_;rw [e1.2.2.2.1];exact hm.notes)) ?_
   rintro r h5 ⟨rfl,K5,chv5,hT5,gr5,_⟩
   refine ⟨trivial,K5,nm,sm,chv5,_,hT5,Gr.trans (K':=fun j=>if j=h3.nx then 4 else if j=h3.nx+1 then 5 else if j=h.nx then 5 else K j) ⟨?_,fun j hj hk=>⟨?_,?_⟩⟩ gr5⟩
   ·show h.nx≤h3.nx+1+1
    omega
   ·rw [AH.get_put_ne (by omega),AH.get_new_ne (by simp;omega),AH.get_new_ne (by omega),ho3 _ (fun hh=>by rw [hh,hT.kp] at hk;cases hk)]
    exact (gr2.get j hj hk).1
   ·simp only [if_neg (show ¬j=h3.nx by omega),if_neg (show ¬j=h3.nx+1 by omega),if_neg (show ¬j=h.nx by omega),hk]
 ·have c1n:(opT T (okP s)).1≠0:=by omega
  rw [if_pos c1n]
  simp -dsimp (disch:=(repeat first | rw [nxn] | rw [nxp]);try omega) only [go_sem,evLen,c1]
  exact ⟨trivial,K,nm,sm,chv,ρ,hT2,gr2⟩
end
theorem mem_valS {α:Type}:∀ {E:List (List Nat×α)},onceS E→∀e∈E,valS E e.1=some e.2
 | x::r,⟨h1,h2⟩,e,he=>by
  unfold valS
  rcases List.mem_cons.1 he with rfl | hr
  ·rw [if_pos rfl]
  ·have:=mem_valS h2 e hr
   rw [if_neg (fun hh=>by rw [hh,this] at h1;cases h1)]
   exact this
theorem keysN {n:Nat} {ρ:Nat→Nat} {E:Ixs} (hE:IxOK n E):keysA (enS (mapS (fpt ρ) E))=some (E.map (·.1)):=by
 rw [keysA_enS]
 ·unfold mapS;rw [List.map_map];rfl
 ·intro e he
  obtain ⟨x,hx,rfl⟩:=List.mem_map.1 he
  have:=(hE.2 _ _ (mem_valS hE.1 x hx)).2
  show x.1.length≤_
  omega
theorem lensN {K p nm sm chv ρ h T} (hT:Tr K p nm sm chv ρ h T):∀ {E:Ixs},(∀e∈E,e.2<T.files.length)→lensA h (enS (mapS (fpt ρ) E))=some (lenE T.files E)
 | [],_=>rfl
 | e::r,hE=>by
  have ih:=lensN hT (E:=r) fun x hx=>hE x (List.mem_cons_of_mem _ hx)
  obtain ⟨bv,sv,q1,q2,q3,q4⟩:=hT.fl e.2 (hE e (List.mem_cons_self ..))
  show lensA h ((.str e.1,.ptr (ρ e.2) 0)::enS (mapS (fpt ρ) r))=_
  unfold lensA lenE
  rw [q1]
  rcases q2 with ⟨rfl,q2⟩ | ⟨id,c,cs,tx,rfl,_⟩
  ·have:((T.files[e.2]?).getD ⟨[],[],0⟩).b.length=0:=by
    show (T.fil e.2).b.length=0
    rw [q2];rfl
   simp only [List.getElem?_cons_zero]
   rw [ih,this,Nat.zero_add]
  ·simp only [List.getElem?_cons_zero]
   rw [ih]
   rfl
theorem used_le {T:TT} (h:Wf T) (hm:T.now.length≤16384):T.used≤1099511627776:=by
 have h1:=lenE_le (fs:=T.files) (n:=67108864) (fun f hf=>(h.byt f hf).2.2.1) T.now
 have h2:T.now.length*67108864≤16384*67108864:=Nat.mul_le_mul_right _ hm
 exact Nat.le_trans h1 (Nat.le_trans h2 (by decide))
section
variable {S : Sums}
theorem usedC (hS:St S) {K p nm sm chv ρ h T} (hT:Tr K p nm sm chv ρ h T) (hm:T.now.length≤16384) {Q:AV→AH→Prop} (hq:Q (.int .i64 (T.used:Nat)) h):RnC Tryz.prog S 141 [.ptr p 0] h Q:=by
 refine RnC.sum (v:=.int .i64 (T.used:Nat)) (h':=h) ?_ hq
 rw [hS.used]
 unfold sumUsed
 obtain ⟨bs,ck,hn⟩:=hT.now
 have hk:=keysN (ρ:=ρ) hT.wf.now
 have hl:=lensN hT (E:=T.now) fun e he=>(hT.wf.now.2 _ _ (mem_valS hT.wf.now.1 e he)).1
 have hu:=used_le hT.wf hm
 simp only [hT.pp]
 simp only [Nat.zero_add,List.getElem?_cons_zero,List.getElem?_cons_succ,hn,hk,hl]
 have:(enS (mapS (fpt ρ) T.now)).length=T.now.length:=by simp [enS,mapS]
 rw [if_pos]
 ·rfl
 ·have h2:lenE T.files T.now≤1099511627776:=hu
  simp [this,h2]
  omega
def Bp (p:Nat) (h:AH) (v:AV) (l:List Nat):Prop:=Bs h v l∧∀id off n z c,v=.sl id off n z c→id≠p
theorem Bp.step {p:Nat} {h h':AH} {v:AV} {l:List Nat} (hb:Bp p h v l) (hn:h.nx≤h'.nx) (ho:∀j,j<h.nx→j≠p→h'.get j=h.get j):Bp p h' v l:=by
 obtain ⟨hb,hp⟩:=hb
 refine ⟨?_,hp⟩
 rcases hb with h1 | ⟨id,off,c,cs,o,t,h1,h2,h3,h4,h5,h6⟩
 ·exact .inl h1
 ·exact .inr ⟨id,off,c,cs,o,t,h1,(ho id h3 (hp _ _ _ _ _ h1)).trans h2,Nat.lt_of_lt_of_le h3 hn,h4,h5,h6⟩
def Mk (S:Sums) (h:AH) (v:AV) (g:List Nat→List Nat):Prop:=∃fn cs,v=.func (.func fn) [] cs∧bodied Tryz.prog fn=true∧∀bv l,Bs h bv l→l.length≤67108864→RnC Tryz.prog S fn (bv::cs) h fun r h'=>Bn h.nx h' r (g l)∧Fr h h'
theorem putC (hS:St S) {K p nm sm chv ρ h T} (hT:Tr K p nm sm chv ρ h T) (hm:Sm T) (s:Pth) {v:AV} {g:List Nat→List Nat} (hg:∀l,(∀b∈l,b<256)→∀b∈g l,b<256) (hgl:∀l:List Nat,l.length≤67108864→(g l).length≤1073741824)
  (hv:∀h',h.nx≤h'.nx→(∀j,j<h.nx→j≠p→h'.get j=h.get j)→Mk S h' v g) :
  RnC Tryz.prog S 118 [.ptr p 0,.str s,v] h fun r h'=>r=.int .i64 ((putT T (okP s) s g).1:Nat)∧Res K p h h' (putT T (okP s) s g).2:=by
 refine RnC.enter' Tryz.f118 _ 56 [.tmp 6] (hS.nt _ _ _ (by simp)) bd118 Tryz.func118 rfl rfl rfl ?_
 have hpl:p<h.nx:=hT.lt (by rw [hT.kp];decide)
 simp -dsimp (disch:=(repeat first | rw [nxn] | rw [nxp]);try omega) only [go_sem,evLen]
 refine callK_of (opC hS (hT.fr (Fr.new h (.cells [.str s] true false))) (l:=[s]) (avOne s (AH.get_new_eq rfl) (Nat.lt_succ_self _)) (by simp)) ?_
 have eall:[s].all okP=okP s:=by simp
 rw [eall]
 rintro r h2 ⟨rfl,hT2,hn2,ho2⟩
 have hn2':h.nx+1≤h2.nx:=hn2
 have ho2':∀j,j<h.nx→j≠p→h2.get j=h.get j:=fun j hj hjp=>(ho2 j (by simp;omega) hjp).trans (AH.get_new_ne (by omega))
 have gr2:Gr K h K h2:=⟨by omega,fun j hj hk=>⟨ho2' j hj (fun hh=>by rw [hh,hT.kp] at hk;cases hk),hk⟩⟩
 have w2:=Wf.put hT.wf (okP s) s hg
 unfold putT at w2 ⊢
 dsimp only at w2 ⊢
 have e1:=(opT_eq T (okP s))
 by_cases c1:(((opT T (okP s)).1:Nat):Int)=0
 ·have c1':(opT T (okP s)).1=0:=by omega
  have c1n:¬((opT T (okP s)).1≠0):=by omega
  rw [if_neg c1n] at w2 ⊢
  have hp2:=hT2.pp
  have lk:=lookN hT2.now s
  obtain ⟨fn,cs,rfl,hb,hr⟩:=hv h2 (by omega) ho2'
  cases hvs:valS (opT T (okP s)).2.now s with
  | none =>
   rw [hvs] at lk
   simp -dsimp (disch:=(repeat first | rw [nxn] | rw [nxp]);try omega) only [go_sem,evLen,c1,hp2,lk,nilP]
   exact ⟨trivial,K,nm,sm,chv,ρ,hT2,gr2⟩
  | some i =>
   rw [hvs] at lk w2
   dsimp only at w2 ⊢
   have hi:i<(opT T (okP s)).2.files.length:=(hT2.wf.now.2 s i hvs).1
   obtain ⟨bv,sv,q1,q2,q3,q4⟩:=hT2.fl i hi
   have fo:=fil_ok hT2.wf i
   simp -dsimp (disch:=(repeat first | rw [nxn] | rw [nxp]);try omega) only [go_sem,evLen,c1,hp2,lk,nilQ,q1,hb]
   refine callK_of (hr bv _ q2.bs fo.2.2.1) ?_
   rintro r h3 ⟨hbn,hf3⟩
   obtain ⟨lr,_,or_⟩:=bsLn hbn.bs
   obtain ⟨lb,_,ob⟩:=bsLn q2.bs
   have f3:Fr h2 { tr:=h3.tr,nx:=h3.nx+16 }:=hf3.more _ (by omega)
   have hT3:=hT2.fr f3
   have hp3:h3.get p=_:=hT3.pp
   have q1':h3.get (ρ i)=_:=(hf3.get _ (hT2.lt (by omega))).trans q1
   have hu:=used_le hT2.wf (by rw [e1.2.1];exact hm.now)
   have l1:=fo.2.2.1
   have l2:=hgl _ l1
   refine syDraw.keep (fun id=>id<h2.nx) (by kernel_rfl) (by kernel_rfl) ?_
   simp -dsimp (disch:=(repeat first | rw [nxn] | rw [nxp]);try omega) only [go_sem,hp3,q1',true_and,implies_true,sv_int,sv_bool]
   refine callK_of (usedC (Q:=fun r h'=>r=.int .i64 (((opT T (okP s)).2.used:Nat):Int)∧h'={ tr:=h3.tr,nx:=h3.nx+16 }) hS hT3 (by rw [e1.2.1];exact hm.now) ⟨rfl,rfl⟩) ?_
   rintro r2 h4 ⟨rfl,rfl⟩
   refine ⟨fun id _=>rfl,?_⟩
   have hpi:p<h2.nx:=by omega
   have hri:ρ i<h2.nx:=hT2.lt (by omega)
   have sb:=(bsLn q2.bs).2.1
   by_cases c2:(opT T (okP s)).2.room<(((opT T (okP s)).2.used:Nat):Int)-((((opT T (okP s)).2.fil i).b.length:Nat):Int)+(((g ((opT T (okP s)).2.fil i).b).length:Nat):Int)
   ·have c2':T.room<(((opT T (okP s)).2.used:Nat):Int)-((((opT T (okP s)).2.fil i).b.length:Nat):Int)+(((g ((opT T (okP s)).2.fil i).b).length:Nat):Int):=by rw [←e1.1];exact c2
    rw [if_pos c2']
    simp -dsimp (disch:=(repeat first | rw [nxn] | rw [nxp]);try omega) only [go_sem,c2,hp3,q1',lr,lb,ob,or_,hpi,hri,sb,true_and,implies_true,sv_int,sv_bool]
    exact ⟨K,nm,sm,chv,ρ,hT3,gr2.trans (frGr f3 K)⟩
   ·have c2':¬T.room<(((opT T (okP s)).2.used:Nat):Int)-((((opT T (okP s)).2.fil i).b.length:Nat):Int)+(((g ((opT T (okP s)).2.fil i).b).length:Nat):Int):=by rw [←e1.1];exact c2
    rw [if_neg c2'] at w2 ⊢
    simp (maxSteps:=1000000) -dsimp (disch:=(repeat first | rw [nxn] | rw [nxp]);try omega) only [go_sem,c2,hp3,q1',lr,lb,ob,or_,hpi,hri,sb,true_and,implies_true,sv_int,sv_bool]
    refine callK_of (tickC hS hT3 (by rw [e1.2.2.2.2.1];exact hm.clock)) ?_
    rintro r5 h5 ⟨rfl,hT5,hn5,ho5⟩
    have hn5':h5.nx=h3.nx+16:=hn5
    have kpi:ρ i≠p:=fun hh=>by rw [hh,hT.kp] at q4;cases q4
    have q5:h5.get (ρ i)=_:=(ho5 _ kpi).trans q1'
    have hf5:∀o o' j,j≠p→j≠ρ i→j<h3.nx→((h5.put (ρ i) o).put (ρ i) o').get j=h3.get j:=fun o o' j h1 h2 h3=>(AH.get_put_ne h2).trans ((AH.get_put_ne h2).trans (ho5 j h1))
    rcases hbn.shape with rfl | ⟨ra,rn,rc,rfl⟩
    all_goals
     simp -dsimp (disch:=(repeat first | rw [nxn] | rw [nxp]);try omega) only [go_sem,q5]
     refine ⟨trivial,fun j=>if h2.nx≤j∧j<h3.nx then 5 else K j,nm,sm,chv,ρ,hT5.file (i:=i) (f:=⟨g ((opT T (okP s)).2.fil i).b,((opT T (okP s)).2.fil i).s,(opT T (okP s)).2.clock+1⟩) hi (fun j hj=>?_) ⟨_,sv,AH.get_put_eq rfl,(hbn.by (n0:=h2.nx) (K:=fun j=>if h2.nx≤j∧j<h3.nx then 5 else K j) (fun j h1 h2=>if_pos ⟨h1,h2⟩)).mono (fun j hj=>⟨hj,?_⟩) (by show h3.nx≤h5.nx;omega),q3.mono (fun j hj=>⟨?_,?_⟩) (by show h2.nx≤h5.nx;have:=hf3.nx;omega),?_⟩ (Nat.le_refl _) (fun j hj=>?_) w2,?_,fun j hj hk=>⟨?_,?_⟩⟩
     ·have:=hT2.lt hj
      refine ⟨if_neg (by omega),fun hji=>(AH.get_put_ne hji).trans (AH.get_put_ne hji)⟩
     ·try dsimp only at hj
      by_cases hh:h2.nx≤j∧j<h3.nx
      ·exact hf5 _ _ j (by omega) (by omega) hh.2
      ·rw [if_neg hh] at hj
       have hjl:=hT2.lt (j:=j) (by omega)
       exact hf5 _ _ j (fun h9=>by rw [h9,hT.kp] at hj;cases hj) (fun h9=>by rw [h9,q4] at hj;cases hj) (Nat.lt_of_lt_of_le hjl hf3.nx)
     ·have hjl:=hT2.lt (j:=j) (by omega)
      exact (if_neg (by omega)).trans hj
     ·have hjl:=hT2.lt (j:=j) (by omega)
      exact (hf5 _ _ j (fun h9=>by rw [h9,hT.kp] at hj;cases hj) (fun h9=>by rw [h9,q4] at hj;cases hj) (Nat.lt_of_lt_of_le hjl hf3.nx)).trans (hf3.get j hjl)
     ·exact (if_neg (by omega)).trans q4
     ·have:h5.nx≤j:=hj
      show (if h2.nx≤j∧j<h3.nx then 5 else K j)=0
      rw [if_neg (by omega)]
      exact hT2.top j (by have:=hf3.nx;omega)
     ·show h.nx≤h5.nx
      have:=hf3.nx
      omega
     ·exact (hf5 _ _ j (fun h9=>by rw [h9,hT.kp] at hk;cases hk) (fun h9=>by rw [h9,q4] at hk;cases hk) (by have:=hf3.nx;omega)).trans ((hf3.get j (by omega)).trans (gr2.get j hj hk).1)
     ·show (if h2.nx≤j∧j<h3.nx then 5 else K j)=0
      rw [if_neg (by omega)]
      exact hk
 ·have c1n:(opT T (okP s)).1≠0:=by omega
  rw [if_pos c1n]
  simp -dsimp (disch:=(repeat first | rw [nxn] | rw [nxp]);try omega) only [go_sem,evLen,c1]
  exact ⟨trivial,K,nm,sm,chv,ρ,hT2,gr2⟩
theorem writeC (hS:St S) {K p nm sm chv ρ h T} (hT:Tr K p nm sm chv ρ h T) (hm:Sm T) (s:Pth) {b:AV} {l:List Nat} (hb:Bp p h b l) (hl:∀x∈l,x<256) (hll:l.length≤67108864) :
  RnC Tryz.prog S 95 [.ptr p 0,.str s,b] h fun r h'=>r=.int .i64 ((putT T (okP s) s fun _=>l).1:Nat)∧Res K p h h' (putT T (okP s) s fun _=>l).2:=by
 refine RnC.enter' Tryz.f95 _ 11 [.tmp 6] (hS.nt _ _ _ (by simp)) bd95 Tryz.func95 rfl rfl rfl ?_
 have ob:=(bsLn hb.1).2.2
 have cb:=bsCells hb.1
 simp -dsimp (disch:=(repeat first | rw [nxn] | rw [nxp]);try omega) only [go_sem,evLen,ob,cb]
 refine callK_of (putC hS (hT.fr (Fr.new h (.cells [b] true false))) hm s (g:=fun _=>l) (fun _ _=>hl) (fun _ _=>by omega) ?_) ?_
 ·intro h2 hn2 ho2
  refine ⟨132,_,rfl,bd132,fun bv m hbv hml=>?_⟩
  refine RnC.enter' Tryz.f132 _ 6 [.tmp 3] (hS.nt _ _ _ (by simp)) bd132 Tryz.func132 rfl rfl rfl ?_
  have hpl:p<h.nx:=hT.lt (by rw [hT.kp];decide)
  have hc:h2.get h.nx=some (.cells [b] true false):=(ho2 _ (Nat.lt_succ_self _) (by omega)).trans (AH.get_new_eq rfl)
  have hb2:Bp p h2 b l:=hb.step (by have:h.nx+1≤h2.nx:=hn2;omega) fun j hj hjp=>(ho2 j (by simp;omega) hjp).trans (AH.get_new_ne (by omega))
  simp -dsimp (disch:=(repeat first | rw [nxn] | rw [nxp]);try omega) only [go_sem,evLen,hc]
  refine callK_of (cloneC hS hb2.1 (by omega)) ?_
  rintro r h3 ⟨hbn,hf3⟩
  exact ⟨hbn,hf3⟩
 ·rintro r h2 ⟨rfl,K',nm',sm',chv',ρ',hT',gr'⟩
  simp -dsimp (disch:=(repeat first | rw [nxn] | rw [nxp]);try omega) only [go_sem,evLen]
  exact ⟨trivial,K',nm',sm',chv',ρ',hT',(frGr (Fr.new h _) K).trans gr'⟩
theorem appendC (hS:St S) {K p nm sm chv ρ h T} (hT:Tr K p nm sm chv ρ h T) (hm:Sm T) (s:Pth) {b:AV} {l:List Nat} (hb:Bp p h b l) (hl:∀x∈l,x<256) (hll:l.length≤67108864) :
  RnC Tryz.prog S 70 [.ptr p 0,.str s,b] h fun r h'=>r=.int .i64 ((putT T (okP s) s fun o=>o++l).1:Nat)∧Res K p h h' (putT T (okP s) s fun o=>o++l).2:=by
 refine RnC.enter' Tryz.f70 _ 11 [.tmp 6] (hS.nt _ _ _ (by simp)) bd70 Tryz.func70 rfl rfl rfl ?_
 have ob:=(bsLn hb.1).2.2
 have cb:=bsCells hb.1
 simp -dsimp (disch:=(repeat first | rw [nxn] | rw [nxp]);try omega) only [go_sem,evLen,ob,cb]
 refine callK_of (putC hS (hT.fr (Fr.new h (.cells [b] true false))) hm s (g:=fun o=>o++l) (fun o ho x hx=>(List.mem_append.1 hx).elim (ho x) (hl x)) (fun o ho=>by rw [List.length_append];omega) ?_) ?_
 ·intro h2 hn2 ho2
  refine ⟨119,_,rfl,bd119,fun bv m hbv hml=>?_⟩
  refine RnC.enter' Tryz.f119 _ 8 [.tmp 3] (hS.nt _ _ _ (by simp)) bd119 Tryz.func119 rfl rfl rfl ?_
  have hpl:p<h.nx:=hT.lt (by rw [hT.kp];decide)
  have hc:h2.get h.nx=some (.cells [b] true false):=(ho2 _ (Nat.lt_succ_self _) (by omega)).trans (AH.get_new_eq rfl)
  have hb2:Bp p h2 b l:=hb.step (by have:h.nx+1≤h2.nx:=hn2;omega) fun j hj hjp=>(ho2 j (by simp;omega) hjp).trans (AH.get_new_ne (by omega))
  have o2:=(bsLn hbv).2.2
  have c2:=bsCells hbv
  simp -dsimp (disch:=(repeat first | rw [nxn] | rw [nxp]);try omega) only [go_sem,evLen,hc,o2,ob,c2,cb]
  refine callK_of (concatC hS (AH.get_new_eq rfl) (Nat.lt_succ_self _) (hbv.fr (Fr.new _ _)) (hb2.1.fr (Fr.new _ _)) (by omega)) ?_
  rintro r h3 ⟨hbn,hf3⟩
  refine ⟨?_,(Fr.new _ _).trans hf3⟩
  rcases hbn with h1 | ⟨id,c,cs,tx,h1,h2',h3',h4,h5⟩
  ·exact .inl h1
  ·exact .inr ⟨id,c,cs,tx,h1,h2',h3',Nat.le_trans (Nat.le_succ _) h4,h5⟩
 ·rintro r h2 ⟨rfl,K',nm',sm',chv',ρ',hT',gr'⟩
  simp -dsimp (disch:=(repeat first | rw [nxn] | rw [nxp]);try omega) only [go_sem,evLen]
  exact ⟨trivial,K',nm',sm',chv',ρ',hT',(frGr (Fr.new h _) K).trans gr'⟩
end
theorem Tr.recolor {K K':Nat→Nat} {p nm sm chv ρ h T} (hT:Tr K p nm sm chv ρ h T) (hk:∀j,K j≠0→K' j=K j) (top:∀j,h.nx≤j→K' j=0):Tr K' p nm sm chv ρ h T:=by
 have ne:∀ {j n},K j=n→n≠0→K' j=n:=fun {j n} hj h0=>(hk j (by omega)).trans hj
 have k5:∀j,K j=5→K' j=5∧h.get j=h.get j:=fun j hj=>⟨ne hj (by omega),rfl⟩
 have k6:∀j,K j=6→K' j=6∧h.get j=h.get j:=fun j hj=>⟨ne hj (by omega),rfl⟩
 obtain ⟨h1,h2,h3,h4,h5,h6,h7,h8,h9,h10,w⟩:=hT
 refine ⟨h1,h2,h3,h4.mono (n:=T.files.length) k5 k6 (Nat.le_refl _) (fun _ _=>rfl) w.notes,fun i hi=>?_,h6,ne h7 (by omega),ne h8 (by omega),ne h9 (by omega),top,w⟩
 obtain ⟨bv,sv,q1,q2,q3,q4⟩:=h5 i hi
 exact ⟨bv,sv,q1,q2.mono k5 (Nat.le_refl _),q3.mono k5 (Nat.le_refl _),ne q4 (by omega)⟩
section
variable {S : Sums}
theorem syncC (hS:St S) {K p nm sm chv ρ h T} (hT:Tr K p nm sm chv ρ h T) (s:Pth) :
  RnC Tryz.prog S 71 [.ptr p 0,.str s] h fun r h'=>r=.int .i64 ((syncT T (okP s) s).1:Nat)∧Res K p h h' (syncT T (okP s) s).2:=by
 refine RnC.enter' Tryz.f71 _ 30 [.tmp 4] (hS.nt _ _ _ (by simp)) bd71 Tryz.func71 rfl rfl rfl ?_
 have hpl:p<h.nx:=hT.lt (by rw [hT.kp];decide)
 simp -dsimp (disch:=(repeat first | rw [nxn] | rw [nxp]);try omega) only [go_sem,evLen]
 refine callK_of (opC hS (hT.fr (Fr.new h (.cells [.str s] true false))) (l:=[s]) (avOne s (AH.get_new_eq rfl) (Nat.lt_succ_self _)) (by simp)) ?_
 have eall:[s].all okP=okP s:=by simp
 rw [eall]
 rintro r h2 ⟨rfl,hT2,hn2,ho2⟩
 have hn2':h.nx+1≤h2.nx:=hn2
 have ho2':∀j,j<h.nx→j≠p→h2.get j=h.get j:=fun j hj hjp=>(ho2 j (by simp;omega) hjp).trans (AH.get_new_ne (by omega))
 have gr2:Gr K h K h2:=⟨by omega,fun j hj hk=>⟨ho2' j hj (fun hh=>by rw [hh,hT.kp] at hk;cases hk),hk⟩⟩
 have w2:=Wf.sync hT.wf (okP s) s
 unfold syncT at w2 ⊢
 dsimp only at w2 ⊢
 by_cases c1:(((opT T (okP s)).1:Nat):Int)=0
 ·have c1n:¬((opT T (okP s)).1≠0):=by omega
  rw [if_neg c1n] at w2 ⊢
  have hp2:=hT2.pp
  have lk:=lookN hT2.now s
  cases hvs:valS (opT T (okP s)).2.now s with
  | none =>
   rw [hvs] at lk
   simp -dsimp (disch:=(repeat first | rw [nxn] | rw [nxp]);try omega) only [go_sem,evLen,c1,hp2,lk,nilP]
   exact ⟨trivial,K,nm,sm,chv,ρ,hT2,gr2⟩
  | some i =>
   rw [hvs] at lk w2
   dsimp only at w2 ⊢
   have hi:i<(opT T (okP s)).2.files.length:=(hT2.wf.now.2 s i hvs).1
   obtain ⟨bv,sv,q1,q2,q3,q4⟩:=hT2.fl i hi
   have fo:=fil_ok hT2.wf i
   simp -dsimp (disch:=(repeat first | rw [nxn] | rw [nxp]);try omega) only [go_sem,evLen,c1,hp2,lk,nilQ,q1]
   refine callK_of (cloneC hS q2.bs (by have:=fo.2.2.1;omega)) ?_
   rintro r h3 ⟨hbn,hf3⟩
   have hT3:=hT2.fr hf3
   have hri:ρ i<h2.nx:=hT2.lt (by omega)
   have q1':h3.get (ρ i)=_:=(hf3.get _ hri).trans q1
   rcases hbn.shape with rfl | ⟨ra,rn,rc,rfl⟩
   all_goals
    simp -dsimp (disch:=(repeat first | rw [nxn] | rw [nxp]);try omega) only [go_sem,q1']
    refine ⟨trivial,fun j=>if h2.nx≤j∧j<h3.nx then 5 else K j,nm,sm,chv,ρ,hT3.file (i:=i) (f:=⟨((opT T (okP s)).2.fil i).b,((opT T (okP s)).2.fil i).b,((opT T (okP s)).2.fil i).st⟩) hi (fun j hj=>?_) ⟨bv,_,AH.get_put_eq rfl,q2.mono (fun j hj=>⟨?_,?_⟩) hf3.nx,(hbn.by (n0:=h2.nx) (K:=fun j=>if h2.nx≤j∧j<h3.nx then 5 else K j) (fun j h1 h2=>if_pos ⟨h1,h2⟩)).mono (fun j hj=>⟨hj,?_⟩) (Nat.le_refl _),?_⟩ (Nat.le_refl _) (fun j hj=>?_) w2,?_,fun j hj hk=>⟨?_,?_⟩⟩
    ·have:=hT2.lt hj
     exact ⟨if_neg (by omega),fun hji=>AH.get_put_ne hji⟩
    ·have hjl:=hT2.lt (j:=j) (by omega)
     exact (if_neg (by omega)).trans hj
    ·have hjl:=hT2.lt (j:=j) (by omega)
     exact (AH.get_put_ne (fun h9=>by rw [h9,q4] at hj;cases hj)).trans (hf3.get j hjl)
    ·try dsimp only at hj
     by_cases hh:h2.nx≤j∧j<h3.nx
     ·exact AH.get_put_ne (by omega)
     ·rw [if_neg hh] at hj
      exact AH.get_put_ne (fun h9=>by rw [h9,q4] at hj;cases hj)
    ·exact (if_neg (by omega)).trans q4
    ·have:h3.nx≤j:=hj
     show (if h2.nx≤j∧j<h3.nx then 5 else K j)=0
     rw [if_neg (by omega)]
     exact hT2.top j (by have:=hf3.nx;omega)
    ·show h.nx≤h3.nx
     have:=hf3.nx
     omega
    ·exact (AH.get_put_ne (fun h9=>by rw [h9,q4] at hk;cases hk)).trans ((hf3.get j (by omega)).trans (gr2.get j hj hk).1)
    ·show (if h2.nx≤j∧j<h3.nx then 5 else K j)=0
     rw [if_neg (by omega)]
     exact hk
 ·have c1n:(opT T (okP s)).1≠0:=by omega
  rw [if_pos c1n]
  simp -dsimp (disch:=(repeat first | rw [nxn] | rw [nxp]);try omega) only [go_sem,evLen,c1]
  exact ⟨trivial,K,nm,sm,chv,ρ,hT2,gr2⟩
theorem syncPC (hS:St S) {K p nm sm chv ρ h T} (hT:Tr K p nm sm chv ρ h T) (hm:Sm T) :
  RnC Tryz.prog S 99 [.ptr p 0] h fun r h'=>r=.int .i64 ((syncPT T).1:Nat)∧Res K p h h' (syncPT T).2:=by
 refine RnC.enter' Tryz.f99 _ 16 [.tmp 2] (hS.nt _ _ _ (by simp)) bd99 Tryz.func99 rfl rfl rfl ?_
 have hpl:p<h.nx:=hT.lt (by rw [hT.kp];decide)
 simp -dsimp (disch:=(repeat first | rw [nxn] | rw [nxp]);try omega) only [go_sem,evLen]
 refine callK_of (opC hS hT (l:=[]) (.inl ⟨rfl,rfl⟩) (by simp)) ?_
 have eall:([]:List Pth).all okP=true:=rfl
 rw [eall]
 rintro r h2 ⟨rfl,hT2,hn2,ho2⟩
 have gr2:Gr K h K h2:=⟨by omega,fun j hj hk=>⟨ho2 j hj (fun hh=>by rw [hh,hT.kp] at hk;cases hk),hk⟩⟩
 have e1:=(opT_eq T true)
 unfold syncPT
 dsimp only
 by_cases c1:(((opT T true).1:Nat):Int)=0
 ·have c1n:¬((opT T true).1≠0):=by omega
  rw [if_neg c1n]
  have hp2:=hT2.pp
  obtain ⟨lc,_,oc⟩:=hT2.ch.shape
  simp -dsimp (disch:=(repeat first | rw [nxn] | rw [nxp]);try omega) only [go_sem,c1,hp2,lc,oc]
  refine callK_of (keepC hS hT2 (Nat.le_refl _) (by rw [e1.2.2.2.1];exact hm.notes)) ?_
  rintro r h3 ⟨rfl,hT3,hn3,ho3⟩
  exact ⟨trivial,K,nm,sm,.nilsl,ρ,hT3,gr2.trans ⟨by omega,fun j hj hk=>⟨ho3 j hk,hk⟩⟩⟩
 ·have c1n:(opT T true).1≠0:=by omega
  rw [if_pos c1n]
  simp -dsimp (disch:=(repeat first | rw [nxn] | rw [nxp]);try omega) only [go_sem,evLen,c1]
  exact ⟨trivial,K,nm,sm,chv,ρ,hT2,gr2⟩
theorem neSt (h:AH) (a b:List Nat):binA Tryz.prog h .neq 9 (.str a) (.str b)=some (.bool (!decide (a=b))):=by
 simp [binA,strA,eqL_eq]
theorem renC (hS:St S) {K p nm sm chv ρ h T} (hT:Tr K p nm sm chv ρ h T) (hm:Sm T) (a b:Pth) :
  RnC Tryz.prog S 98 [.ptr p 0,.str a,.str b] h fun r h'=>r=.int .i64 ((renT T (okP a&&okP b) a b).1:Nat)∧Res K p h h' (renT T (okP a&&okP b) a b).2:=by
 refine RnC.enter' Tryz.f98 _ 31 [.tmp 6] (hS.nt _ _ _ (by simp)) bd98 Tryz.func98 rfl rfl rfl ?_
 have hpl:p<h.nx:=hT.lt (by rw [hT.kp];decide)
 simp -dsimp (disch:=(repeat first | rw [nxn] | rw [nxp]);try omega) only [go_sem,evLen]
 refine callK_of (opC hS (hT.fr (((Fr.new h (.cells [.str a] true false)).news (.cells [.str b] true false)).news (.cells [.str a,.str b] true false))) (l:=[a,b]) (.inr ⟨_,_,_,_,rfl,AH.get_new_eq rfl,Nat.lt_succ_self _⟩) (by simp)) ?_
 have eall:[a,b].all okP=(okP a&&okP b):=by simp
 rw [eall]
 have hlb:(okP a&&okP b)=true→b.length≤69:=fun hh=>okP_len (by rw [Bool.and_eq_true] at hh;exact hh.2)
 generalize (okP a&&okP b)=ok at hlb
 rintro r h2 ⟨rfl,hT2,hn2,ho2⟩
 have hn2':h.nx+3≤h2.nx:=hn2
 have ca:h2.get h.nx=some (.cells [.str a] true false):=(ho2 h.nx (by simp;omega) (by omega)).trans ((AH.get_new_ne (by simp;omega)).trans ((AH.get_new_ne (by simp)).trans (AH.get_new_eq rfl)))
 have cb:h2.get (h.nx+1)=some (.cells [.str b] true false):=(ho2 (h.nx+1) (by simp) (by omega)).trans ((AH.get_new_ne (by simp)).trans (AH.get_new_eq rfl))
 have ho2':∀j,j<h.nx→j≠p→h2.get j=h.get j:=fun j hj hjp=>(ho2 j (by simp;omega) hjp).trans ((AH.get_new_ne (by simp;omega)).trans ((AH.get_new_ne (by simp;omega)).trans (AH.get_new_ne (by omega))))
 have gr2:Gr K h K h2:=⟨by omega,fun j hj hk=>⟨ho2' j hj (fun hh=>by rw [hh,hT.kp] at hk;cases hk),hk⟩⟩
 have e1:=(opT_eq T ok)
 unfold renT
 dsimp only
 by_cases c1:(((opT T ok).1:Nat):Int)=0
 ·have c1n:¬((opT T ok).1≠0):=by omega
  rw [if_neg c1n]
  have hp2:=hT2.pp
  have lk:∀n,_:=fun n=>lookN (h:={ tr:=h2.tr,nx:=n }) hT2.now a
  simp -dsimp (disch:=(repeat first | rw [nxn] | rw [nxp]);try omega) only [go_sem,evLen,c1]
  refine syDraw.go0 (by kernel_rfl) ?_
  have f3:Fr h2 { tr:=h2.tr,nx:=h2.nx+7 }:=(Fr.refl h2).more _ (by omega)
  cases hv:valS (opT T ok).2.now a with
  | none =>
   rw [hv] at lk
   simp -dsimp (disch:=(repeat first | rw [nxn] | rw [nxp]);try omega) only [go_sem,evLen,hp2,ca,lk,nilP]
   exact ⟨trivial,K,nm,sm,chv,ρ,hT2.fr f3,gr2.trans (frGr f3 K)⟩
  | some i =>
   rw [hv] at lk
   dsimp only
   by_cases hab:a=b
   ·rw [if_pos hab]
    have d1:decide (a=b)=true:=by simpa using hab
    simp -dsimp (disch:=(repeat first | rw [nxn] | rw [nxp]);try omega) only [go_sem,evLen,hp2,ca,cb,lk,nilQ,neSt,d1]
    exact ⟨trivial,K,nm,sm,chv,ρ,hT2.fr f3,gr2.trans (frGr f3 K)⟩
   ·rw [if_neg hab]
    have d1:decide (a=b)=false:=by simpa using hab
    simp -dsimp (disch:=(repeat first | rw [nxn] | rw [nxp]);try omega) only [go_sem,evLen,hp2,ca,cb,lk,nilQ,neSt,d1]
    refine callK_of (tickC hS (hT2.fr f3) (by rw [e1.2.2.2.2.1];exact hm.clock)) ?_
    rintro r h3 ⟨rfl,hT3,hn3,ho3⟩
    have hn3':h3.nx=h2.nx+7:=hn3
    try simp -dsimp (disch:=(repeat first | rw [nxn] | rw [nxp]);try omega) only [go_sem,evLen]
    have hT4:=hT3.recolor (K':=fun j=>if j=h.nx then 5 else if j=h.nx+1 then 5 else K j) (fun j hj=>by
     have:=hT.lt hj
     rw [if_neg (by omega),if_neg (by omega)]) (fun j hj=>by
     rw [if_neg (by omega),if_neg (by omega)]
     exact hT3.top j hj)
    have hcl:Clo (fun j=>if j=h.nx then 5 else if j=h.nx+1 then 5 else K j) h3 ρ (.func (.func 133) [] [.ptr h.nx 0,.ptr (h.nx+1) 0]) (.ren a b) :=
     ⟨h.nx,h.nx+1,rfl,(ho3 _ (by omega)).trans ca,(ho3 _ (by omega)).trans cb,if_pos rfl,(if_neg (by omega)).trans (if_pos rfl)⟩
    refine callK_of (changeC hS hT4 hcl (hlb (opT_ok c1n)) (by show (opT T ok).2.notes.length≤_;rw [e1.2.2.2.1];exact hm.notes)) ?_
    rintro r h5 ⟨rfl,K5,chv5,hT5,gr5,_⟩
    refine ⟨trivial,K5,nm,sm,chv5,_,hT5,Gr.trans (K':=fun j=>if j=h.nx then 5 else if j=h.nx+1 then 5 else K j) ⟨by omega,fun j hj hk=>⟨?_,?_⟩⟩ gr5⟩
    ·exact (ho3 j (fun hh=>by rw [hh,hT.kp] at hk;cases hk)).trans (gr2.get j hj hk).1
    ·exact (if_neg (by omega)).trans ((if_neg (by omega)).trans hk)
 ·have c1n:(opT T ok).1≠0:=by omega
  rw [if_pos c1n]
  simp -dsimp (disch:=(repeat first | rw [nxn] | rw [nxp]);try omega) only [go_sem,evLen,c1]
  exact ⟨trivial,K,nm,sm,chv,ρ,hT2,gr2⟩
theorem rmC (hS:St S) {K p nm sm chv ρ h T} (hT:Tr K p nm sm chv ρ h T) (hm:Sm T) (s:Pth) :
  RnC Tryz.prog S 61 [.ptr p 0,.str s] h fun r h'=>r=.int .i64 ((rmT T (okP s) s).1:Nat)∧Res K p h h' (rmT T (okP s) s).2:=by
 refine RnC.enter' Tryz.f61 _ 25 [.tmp 4] (hS.nt _ _ _ (by simp)) bd61 Tryz.func61 rfl rfl rfl ?_
 have hpl:p<h.nx:=hT.lt (by rw [hT.kp];decide)
 simp -dsimp (disch:=(repeat first | rw [nxn] | rw [nxp]);try omega) only [go_sem,evLen]
 refine callK_of (opC hS (hT.fr ((Fr.new h (.cells [.str s] true false)).news (.cells [.str s] true false))) (l:=[s]) (avOne s (AH.get_new_eq rfl) (Nat.lt_succ_self _)) (by simp)) ?_
 have eall:[s].all okP=okP s:=by simp
 rw [eall]
 rintro r h2 ⟨rfl,hT2,hn2,ho2⟩
 have hn2':h.nx+2≤h2.nx:=hn2
 have ca:h2.get h.nx=some (.cells [.str s] true false):=(ho2 h.nx (by simp;omega) (by omega)).trans ((AH.get_new_ne (by simp)).trans (AH.get_new_eq rfl))
 have gr2:Gr K h K h2:=⟨by omega,fun j hj hk=>⟨(ho2 j (by simp;omega) (fun hh=>by rw [hh,hT.kp] at hk;cases hk)).trans ((AH.get_new_ne (by simp;omega)).trans (AH.get_new_ne (by omega))),hk⟩⟩
 unfold rmT
 dsimp only
 have e1:=(opT_eq T (okP s))
 by_cases c1:(((opT T (okP s)).1:Nat):Int)=0
 ·have c1n:¬((opT T (okP s)).1≠0):=by omega
  rw [if_neg c1n]
  have hp2:=hT2.pp
  have lk:∀n,_:=fun n=>lookN (h:={ tr:=h2.tr,nx:=n }) hT2.now s
  simp -dsimp (disch:=(repeat first | rw [nxn] | rw [nxp]);try omega) only [go_sem,evLen,c1]
  refine syDraw.go0 (by kernel_rfl) ?_
  have f3:Fr h2 { tr:=h2.tr,nx:=h2.nx+7 }:=(Fr.refl h2).more _ (by omega)
  cases hv:valS (opT T (okP s)).2.now s with
  | none =>
   rw [hv] at lk
   simp -dsimp (disch:=(repeat first | rw [nxn] | rw [nxp]);try omega) only [go_sem,evLen,hp2,ca,lk,nilP]
   exact ⟨trivial,K,nm,sm,chv,ρ,hT2.fr f3,gr2.trans (frGr f3 K)⟩
  | some i =>
   rw [hv] at lk
   simp -dsimp (disch:=(repeat first | rw [nxn] | rw [nxp]);try omega) only [go_sem,evLen,hp2,ca,lk,nilQ]
   refine callK_of (tickC hS (hT2.fr f3) (by rw [e1.2.2.2.2.1];exact hm.clock)) ?_
   rintro r h3 ⟨rfl,hT3,hn3,ho3⟩
   have hn3':h3.nx=h2.nx+7:=hn3
   try simp -dsimp (disch:=(repeat first | rw [nxn] | rw [nxp]);try omega) only [go_sem,evLen]
   have hT4:=hT3.recolor (K':=fun j=>if j=h.nx then 5 else K j) (fun j hj=>by
    have:=hT.lt hj
    rw [if_neg (by omega)]) (fun j hj=>by
    rw [if_neg (by omega)]
    exact hT3.top j hj)
   have hcl:Clo (fun j=>if j=h.nx then 5 else K j) h3 ρ (.func (.func 103) [] [.ptr h.nx 0]) (.rm s):=⟨h.nx,rfl,(ho3 _ (by omega)).trans ca,if_pos rfl⟩
   refine callK_of (changeC hS hT4 hcl trivial (by show (opT T (okP s)).2.notes.length≤_;rw [e1.2.2.2.1];exact hm.notes)) ?_
   rintro r h5 ⟨rfl,K5,chv5,hT5,gr5,_⟩
   refine ⟨trivial,K5,nm,sm,chv5,_,hT5,Gr.trans (K':=fun j=>if j=h.nx then 5 else K j) ⟨by omega,fun j hj hk=>⟨?_,?_⟩⟩ gr5⟩
   ·exact (ho3 j (fun hh=>by rw [hh,hT.kp] at hk;cases hk)).trans (gr2.get j hj hk).1
   ·exact (if_neg (by omega)).trans hk
 ·have c1n:(opT T (okP s)).1≠0:=by omega
  rw [if_pos c1n]
  simp -dsimp (disch:=(repeat first | rw [nxn] | rw [nxp]);try omega) only [go_sem,evLen,c1]
  exact ⟨trivial,K,nm,sm,chv,ρ,hT2,gr2⟩
end
section
variable {S : Sums}
theorem readC (hS:St S) {K p nm sm chv ρ h T} (hT:Tr K p nm sm chv ρ h T) (s:Pth) :
  RnC Tryz.prog S 58 [.ptr p 0,.str s] h fun r h'=>(∃v,r=.tup [v,.int .i64 ((readT T (okP s) s).2.1:Nat)]∧Bs h' v (readT T (okP s) s).1∧∀id off n z c,v=.sl id off n z c→h.nx≤id)∧Tr K p nm sm chv ρ h' (readT T (okP s) s).2.2∧Gr K h K h':=by
 refine RnC.enter' Tryz.f58 _ 28 [.tmp 4,.tmp 5] (hS.nt _ _ _ (by simp)) bd58 Tryz.func58 rfl rfl rfl ?_
 have hpl:p<h.nx:=hT.lt (by rw [hT.kp];decide)
 simp -dsimp (disch:=(repeat first | rw [nxn] | rw [nxp]);try omega) only [go_sem,evLen]
 refine callK_of (opC hS (hT.fr (Fr.new h (.cells [.str s] true false))) (l:=[s]) (avOne s (AH.get_new_eq rfl) (Nat.lt_succ_self _)) (by simp)) ?_
 have eall:[s].all okP=okP s:=by simp
 rw [eall]
 rintro r h2 ⟨rfl,hT2,hn2,ho2⟩
 have hn2':h.nx+1≤h2.nx:=hn2
 have ho2':∀j,j<h.nx→j≠p→h2.get j=h.get j:=fun j hj hjp=>(ho2 j (by simp;omega) hjp).trans (AH.get_new_ne (by omega))
 have gr2:Gr K h K h2:=⟨by omega,fun j hj hk=>⟨ho2' j hj (fun hh=>by rw [hh,hT.kp] at hk;cases hk),hk⟩⟩
 unfold readT
 dsimp only
 by_cases c1:(((opT T (okP s)).1:Nat):Int)=0
 ·have c1n:¬((opT T (okP s)).1≠0):=by omega
  rw [if_neg c1n]
  have hp2:=hT2.pp
  have lk:=lookN hT2.now s
  cases hvs:valS (opT T (okP s)).2.now s with
  | none =>
   rw [hvs] at lk
   simp -dsimp (disch:=(repeat first | rw [nxn] | rw [nxp]);try omega) only [go_sem,evLen,c1,hp2,lk,nilP]
   exact ⟨⟨_,rfl,.inl ⟨rfl,rfl⟩,fun _ _ _ _ _ hh=>by cases hh⟩,hT2,gr2⟩
  | some i =>
   rw [hvs] at lk
   have hi:i<(opT T (okP s)).2.files.length:=(hT2.wf.now.2 s i hvs).1
   obtain ⟨bv,sv,q1,q2,q3,q4⟩:=hT2.fl i hi
   have fo:=fil_ok hT2.wf i
   simp -dsimp (disch:=(repeat first | rw [nxn] | rw [nxp]);try omega) only [go_sem,evLen,c1,hp2,lk,nilQ,q1]
   refine callK_of (cloneC hS q2.bs (by have:=fo.2.2.1;omega)) ?_
   rintro r h3 ⟨hbn,hf3⟩
   have hb:=hbn.bs
   have hid:∀id off n z c,r=.sl id off n z c→h.nx≤id:=fun id off n z c hh=>by
    rcases hbn with ⟨h1,_⟩ | ⟨id',c',cs,tx,h1,h2',h3',h4,h5⟩
    ·rw [h1] at hh;cases hh
    ·rw [h1] at hh;cases hh;omega
   exact ⟨⟨_,rfl,hb,hid⟩,hT2.fr hf3,gr2.trans (frGr hf3 K)⟩
 ·have c1n:(opT T (okP s)).1≠0:=by omega
  rw [if_pos c1n]
  simp -dsimp (disch:=(repeat first | rw [nxn] | rw [nxp]);try omega) only [go_sem,evLen,c1]
  exact ⟨⟨_,rfl,.inl ⟨rfl,rfl⟩,fun _ _ _ _ _ hh=>by cases hh⟩,hT2,gr2⟩
theorem statC (hS:St S) {K p nm sm chv ρ h T} (hT:Tr K p nm sm chv ρ h T) (s:Pth) :
  RnC Tryz.prog S 56 [.ptr p 0,.str s] h fun r h'=>r=.tup [.int .i64 ((statT T s).1:Nat),.int .u64 ((statT T s).2.1:Nat),.bool (statT T s).2.2]∧Fr h h':=by
 refine RnC.enter' Tryz.f56 _ 38 [.tmp 4,.tmp 5,.tmp 6] (hS.nt _ _ _ (by simp)) bd56 Tryz.func56 rfl rfl rfl ?_
 have hp:=hT.pp
 simp -dsimp (disch:=(repeat first | rw [nxn] | rw [nxp]);try omega) only [go_sem,evLen]
 refine callK_of (hT.made hS) ?_
 rintro r h2 ⟨rfl,rfl⟩
 have lk:∀n,_:=fun n=>lookN (h:={ tr:=h2.tr,nx:=n }) hT.now s
 have lk0:=lookN hT.now s
 unfold statT
 cases hvs:valS T.now s with
 | none =>
  rw [hvs] at lk0
  simp -dsimp (disch:=(repeat first | rw [nxn] | rw [nxp]);try omega) only [go_sem,evLen,hp,lk0,nilP]
  exact ⟨trivial,Fr.refl _⟩
 | some i =>
  rw [hvs] at lk lk0
  have hi:i<T.files.length:=(hT.wf.now.2 s i hvs).1
  obtain ⟨bv,sv,q1,q2,q3,q4⟩:=hT.fl i hi
  obtain ⟨lb,_,ob⟩:=bsLn q2.bs
  simp -dsimp (disch:=(repeat first | rw [nxn] | rw [nxp]);try omega) only [go_sem,hp,lk0,nilQ]
  refine syDraw.go0 (by kernel_rfl) ?_
  simp -dsimp (disch:=(repeat first | rw [nxn] | rw [nxp]);try omega) only [go_sem,hp,lk,nilQ,q1,lb,ob]
  exact ⟨trivial,(Fr.refl _).more _ (by omega)⟩
theorem fuseC (hS:St S) {K p nm sm chv ρ h T} (hT:Tr K p nm sm chv ρ h T) (n:Int) (hn:n≤9223372036854775807) :
  RnC Tryz.prog S 18 [.ptr p 0,.int .i64 n] h fun r h'=>r=.int .i64 0∧Tr K p nm sm chv ρ h' { T with fuse:=max (-1) n }∧Gr K h K h':=by
 refine RnC.enter' Tryz.f18 _ 13 [.tmp 4] (hS.nt _ _ _ (by simp)) bd18 Tryz.func18 rfl rfl rfl ?_
 have hp:=hT.pp
 simp -dsimp (disch:=(repeat first | rw [nxn] | rw [nxp]);try omega) only [go_sem,evLen]
 refine callK_of (hT.made hS) ?_
 rintro r h2 ⟨rfl,rfl⟩
 simp -dsimp (disch:=(repeat first | rw [nxn] | rw [nxp]);try omega) only [go_sem,evLen,hp]
 have w:=hT.wf
 exact ⟨trivial,hT.setp (fun j _ hj=>AH.get_put_ne hj) (Nat.le_refl _) ⟨w.1,w.2,w.3,⟨by show (-1:Int)≤max (-1) n;omega,by show max (-1) n≤_;omega⟩,w.5,w.6⟩ rfl rfl rfl rfl (AH.get_put_eq rfl),Nat.le_refl _,fun j hj hk=>⟨AH.get_put_ne (fun hh=>by rw [hh,hT.kp] at hk;cases hk),hk⟩⟩
theorem bld60 (room:Int) (a b:Nat):evBuild Tryz.prog 64 [(0,.bool true),(1,.int .i64 room),(2,.map a),(3,.map b),(7,.int .i64 (-1))]=some (.agg [.bool true,.int .i64 room,.map a,.map b,.nilsl,.int .u64 0,.bool false,.int .i64 (-1)]):=by kernel_rfl
theorem newC (hS:St S) {h:AH} (room:Int):RnC Tryz.prog S 8 [.int .i64 room] h fun r h'=>Fr h h'∧if 0≤room∧room≤67108864 then r=.tup [.ptr (h.nx+2) 0,.int .i64 0]∧h'.nx=h.nx+3∧Tr (fun j=>if j=h.nx+2 then 1 else if j=h.nx then 2 else if j=h.nx+1 then 3 else 0) (h.nx+2) h.nx (h.nx+1) .nilsl (fun _=>0) h' (newT room) else r=.tup [.nilptr,.int .i64 2]:=by
 refine RnC.enter' Tryz.f8 _ 15 [.tmp 2,.tmp 3] (hS.nt _ _ _ (by simp)) bd8 Tryz.func8 rfl rfl rfl ?_
 by_cases c1:room<0
 ·simp -dsimp (disch:=(repeat first | rw [nxn] | rw [nxp]);try omega) only [go_sem,evLen,c1]
  refine ⟨Fr.refl _,?_⟩
  rw [if_neg (by omega)]
  trivial
 ·by_cases c2:67108864<room
  ·simp -dsimp (disch:=(repeat first | rw [nxn] | rw [nxp]);try omega) only [go_sem,evLen,c1,c2]
   refine ⟨Fr.refl _,?_⟩
   rw [if_neg (by omega)]
   trivial
  ·simp -dsimp (disch:=(repeat first | rw [nxn] | rw [nxp]);try omega) only [go_sem,evLen,c1,c2,bld60]
   refine ⟨((Fr.new _ _).news _).news _,?_⟩
   rw [if_pos (by omega)]
   refine ⟨trivial,trivial,⟨AH.get_new_eq rfl,⟨[],0,?_⟩,⟨[],0,?_⟩,.inl ⟨rfl,rfl⟩,fun i hi=>by simp [newT] at hi,fun i j hi=>by simp [newT] at hi,if_pos rfl,?_,?_,fun j hj=>?_,Wf.new (by omega)⟩⟩
   ·exact (AH.get_new_ne (by simp;omega)).trans ((AH.get_new_ne (by simp)).trans (AH.get_new_eq rfl))
   ·exact (AH.get_new_ne (by simp)).trans (AH.get_new_eq rfl)
   ·rw [if_neg (by omega),if_pos rfl]
   ·rw [if_neg (by omega),if_neg (by omega),if_pos rfl]
   ·have hj':h.nx+3≤j:=by simpa using hj
    rw [if_neg (by omega),if_neg (by omega),if_neg (by omega)]
end
end Go.Proofs.YtaooopaemphfjaaGreatDoor.tre
end