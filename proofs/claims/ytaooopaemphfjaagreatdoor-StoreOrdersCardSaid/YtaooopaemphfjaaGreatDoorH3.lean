/- Texts joined: TCi, TCj, TCk, TLa, TLb, WLa, WLb. -/
import Derived.Test.YtaooopaemphfjaaGreatDoorH2
import Derived.Test.YtaooopaemphfjaaGreatDoorAb6
import Derived.ChangeShapes
import Derived.Test.YtaooopaemphfjaaGreatDoorAb7

section
namespace Go.Proofs.YtaooopaemphfjaaGreatDoor.tre
open Go Go.Abs Go.Proofs
set_option maxRecDepth 100000
set_option linter.unusedVariables false
set_option linter.unusedSimpArgs false

section
variable {S : Sums}
end
end Go.Proofs.YtaooopaemphfjaaGreatDoor.tre
end

section
namespace Go.Proofs.YtaooopaemphfjaaGreatDoor.tre
open Go Go.Abs Go.Proofs
set_option maxRecDepth 100000
set_option linter.unusedVariables false
set_option linter.unusedSimpArgs false

def Iv (K:Nat→Nat) (h:AH) (v:AV) (l:List Int):Prop :=
 (v=.nilsl∧l=[])∨∃id off c cs o t,v=.sl id off l.length 1 c∧h.get id=some (.cells cs o t)∧id<h.nx∧K id=0∧(∀k,c=some k→l.length≤k)∧off+l.length≤cs.length∧(cs.drop off).take l.length=l.map (.int .i64)
end Go.Proofs.YtaooopaemphfjaaGreatDoor.tre
end

section
namespace Go.Proofs.YtaooopaemphfjaaGreatDoor.tre
open Go Go.Abs Go.Proofs
set_option maxRecDepth 100000
set_option linter.unusedVariables false
set_option linter.unusedSimpArgs false

structure Cr (K0:Nat→Nat) (h0:AH) (p m sm wm:Nat) (r:AV) (W:List (AV×AV)) (ks:List Pth) (n:Nat) (ρ0:Nat→Nat) (v:AV) (ps:List Int) (T:TT) (g:AH):Prop where
 t:∃K ρ,Tr K p m sm .nilsl ρ g T∧(∀i,i<n→ρ i=ρ0 i)∧Gr K0 h0 K g∧Iv K g v ps∧K wm=0∧(ks=[]∨∃kid,r=.sl kid 0 ks.length 1 none∧g.get kid=some (.cells (ks.map .str) true false)∧kid<g.nx∧K kid=0)
 w:∃bs ck,g.get wm=some (.map W bs ck)
 wl:wm<g.nx
section
variable {S : Sums}
end
end Go.Proofs.YtaooopaemphfjaaGreatDoor.tre
end

section
namespace Go.Proofs.YtaooopaemphfjaaGreatDoor.tre
open Go Go.Abs Go.Proofs
set_option maxRecDepth 100000
set_option linter.unusedVariables false
set_option linter.unusedSimpArgs false

def Bz (K:Nat→Nat) (h:AH) (v:AV) (l:List Nat):Prop:=Bs h v l∧∀id off n z c,v=.sl id off n z c→K id=0
theorem Bz.gr {K K':Nat→Nat} {h h':AH} {v:AV} {l:List Nat} (hb:Bz K h v l) (g:Gr K h K' h'):Bz K' h' v l:=by
 obtain ⟨hb,hk⟩:=hb
 rcases hb with h1 | ⟨id,off,c,cs,o,t,h1,h2,h3,h4⟩
 ·exact ⟨.inl h1,fun id off n z c hh=>by rw [h1.1] at hh;cases hh⟩
 ·have hk0:=hk _ _ _ _ _ h1
  refine ⟨.inr ⟨id,off,c,cs,o,t,h1,(g.get id h3 hk0).1.trans h2,Nat.lt_of_lt_of_le h3 g.nx,h4⟩,fun id' off' n z c' hh=>?_⟩
  rw [h1] at hh
  cases hh
  exact (g.get _ h3 hk0).2
theorem Bn.bp {p:Nat} {h h':AH} {v:AV} {l:List Nat} (hb:Bn h.nx h' v l) (hp:p<h.nx):Bp p h' v l:=by
 refine ⟨hb.bs,fun id off n z c hh=>?_⟩
 rcases hb with h1 | ⟨id',c',cs,tx,h1,h2,h3,h4,h5⟩
 ·rw [h1.1] at hh;cases hh
 ·rw [h1] at hh
  cases hh
  omega
section
variable {S : Sums}
end
end Go.Proofs.YtaooopaemphfjaaGreatDoor.tre
end

section
namespace Go.Proofs.YtaooopaemphfjaaGreatDoor.tre
open Go Go.Abs Go.Proofs Go.ChangeShapes Go.RowKit
set_option linter.unusedVariables false
set_option linter.unusedSimpArgs false

section
variable {H : Type} {enc : TypeId × Value → H} {P : Program} {w : World} {base : Nat} {spare : Nat → Bool} {held : Bool}
theorem trodAll_five {t0 t1 t2 t3 t4:TypeId} {args:Array Value} {ds:List (DataW H)} {ps:List MemPlace} (h:DataW.TrodAll enc P w base spare held [t0,t1,t2,t3,t4] args.toList ds ps) :
  ∃v0 v1 v2 v3 v4 d0 d1 d2 d3 d4 p0 p1 p2 p3 p4,args=#[v0,v1,v2,v3,v4]∧ds=[d0,d1,d2,d3,d4]∧ps=p0++(p1++(p2++(p3++p4)))∧DataW.Trod enc P w base spare held t0 v0 d0 p0∧DataW.Trod enc P w base spare held t1 v1 d1 p1∧DataW.Trod enc P w base spare held t2 v2 d2 p2∧DataW.Trod enc P w base spare held t3 v3 d3 p3∧DataW.Trod enc P w base spare held t4 v4 d4 p4:=by
 obtain ⟨v0,vs,d0,ds',p0,q,hargs,rfl,rfl,hd0,hr0⟩:=trodAll_cons h
 obtain ⟨v1,vs1,d1,ds1,p1,q1,rfl,rfl,rfl,hd1,hr1⟩:=trodAll_cons hr0
 obtain ⟨v2,vs2,d2,ds2,p2,q2,rfl,rfl,rfl,hd2,hr2⟩:=trodAll_cons hr1
 obtain ⟨v3,vs3,d3,ds3,p3,q3,rfl,rfl,rfl,hd3,hr3⟩:=trodAll_cons hr2
 obtain ⟨v4,vs4,d4,ds4,p4,q4,rfl,rfl,rfl,hd4,hr4⟩:=trodAll_cons hr3
 obtain ⟨rfl,rfl,rfl⟩:=trodAll_nil hr4
 exact ⟨v0,v1,v2,v3,v4,d0,d1,d2,d3,d4,p0,p1,p2,p3,p4,by cases args;simp_all,rfl,by simp,hd0,hd1,hd2,hd3,hd4⟩
theorem trodAll_mk5 {t0 t1 t2 t3 t4:TypeId} {v0 v1 v2 v3 v4:Value} {d0 d1 d2 d3 d4:DataW H} {p0 p1 p2 p3 p4:List MemPlace} (h0:DataW.Trod enc P w base spare held t0 v0 d0 p0) (h1:DataW.Trod enc P w base spare held t1 v1 d1 p1) (h2:DataW.Trod enc P w base spare held t2 v2 d2 p2) (h3:DataW.Trod enc P w base spare held t3 v3 d3 p3) (h4:DataW.Trod enc P w base spare held t4 v4 d4 p4) :
  DataW.TrodAll enc P w base spare held [t0,t1,t2,t3,t4] [v0,v1,v2,v3,v4] [d0,d1,d2,d3,d4] (p0++(p1++(p2++(p3++p4)))):=⟨p0,_,h0,⟨p1,_,h1,trodAll_mk3 h2 h3 h4,rfl⟩,rfl⟩
end
end Go.Proofs.YtaooopaemphfjaaGreatDoor.tre
end

section
namespace Go.Proofs.YtaooopaemphfjaaGreatDoor.tre
open Go Go.Abs Go.Abs.Wal Go.Proofs
set_option maxRecDepth 100000
set_option linter.unusedVariables false
set_option linter.unusedSimpArgs false

def upc (l:List Nat):List Nat:=if unfE l=0 then piece l else []
def upn (l:List Nat):Nat:=if unfE l=0 then told l+8 else 0
theorem unfE_cases (l:List Nat):unfE l=5∨unfE l=0∨unfE l=4:=by
 unfold unfE
 split
 ·exact .inl rfl
 ·split
  ·exact .inr (.inr rfl)
  ·split
   ·exact .inl rfl
   ·split
    ·exact .inr (.inl rfl)
    ·exact .inr (.inr rfl)
theorem unfE_okk {l:List Nat} (h:unfE l=0):told l≤1048576∧told l+8≤l.length:=by
 unfold unfE at h
 split at h
 ·cases h
 ·split at h
  ·cases h
  ·split at h
   ·cases h
   ·omega
theorem sum_step {x c:Nat} (hx:x<65521) (hc:c<65536):(iw (BitVec.ofNat 32 x+BitVec.ofNat 32 c)).tmod 65521=iw (BitVec.ofNat 32 ((x+c)%65521)):=by
 have h1:iw (BitVec.ofNat 32 x+BitVec.ofNat 32 c)=((x+c:Nat):Int):=by
  rw [iw,BitVec.toNat_add,BitVec.toNat_ofNat,BitVec.toNat_ofNat]
  congr 1
  omega
 rw [h1,iw_ofNat (by omega)]
 exact tmod_nat _ 65521
theorem sum_end {x y:Nat} (hx:x<65521) (hy:y<65521):iw ((BitVec.ofNat 32 y <<< 16:W32) ||| BitVec.ofNat 32 x)=((y*65536+x:Nat):Int):=by
 rw [iw,BitVec.toNat_or,bv_shl8,BitVec.toNat_ofNat]
 have e1:y*2^16%4294967296=y*2^16:=Nat.mod_eq_of_lt (by omega)
 have e2:x%2^32=x:=Nat.mod_eq_of_lt (by omega)
 rw [e1,e2,or_of_lt (by omega)]
structure Wl (S:Sums):Prop extends St S where
 nw:∀f args h,f∈[25,32,33,31,203,29,57,59,60,69,68,67,90,91,92,94,96,97,101,114,115,116,117,135,65,113]→S f args h=none
section
variable {S : Sums}
theorem bytes0:bytesOf { data:=#[] }=[]:=rfl
theorem cv:∀(h:AH) (b:Nat),evConvert Tryz.prog h 5 81 (.int .u8 (b:Int))=some (.val (.int .u32 (iw (BitVec.ofNat 32 b))) h):=fun h b=>conv_w Tryz.underlying5 Tryz.underlying81 h b
theorem cv76 (h:AH) (n:Int):evConvert Tryz.prog h 81 3 (.int .u32 n)=some (.val (.int .i64 (IntKind.i64.wrap n)) h):=by
 simp only [evConvert,Tryz.underlying81,Tryz.underlying3,val?]
theorem take4 {l:List Nat} (h4:4≤l.length):∃b0 b1 b2 b3 r,l=b0::b1::b2::b3::r:=by
 match l,h4 with
 | b0::b1::b2::b3::r,_=>exact ⟨b0,b1,b2,b3,r,rfl⟩

set_option maxHeartbeats 4000000 in
theorem toldC (hS:Wl S) {h:AH} {v:AV} {l:List Nat} (hb:Bs h v l) (h4:4≤l.length) (hl:∀b∈l,b<256):RnC Tryz.prog S 135 [v] h fun r h'=>r=.int .u32 (told l:Nat)∧Fr h h':=by
 obtain ⟨b0,b1,b2,b3,r,rfl⟩:=take4 h4
 rcases hb with ⟨rfl,h0⟩ | ⟨id,off,c,cs,o,tx,rfl,hg,hid,hlen,hc,hx⟩
 ·cases h0
 ·have q0:=bs_get hx (i:=0) rfl
  have q1:=bs_get hx (i:=1) rfl
  have q2:=bs_get hx (i:=2) rfl
  have q3:=bs_get hx (i:=3) rfl
  rw [Nat.add_zero] at q0
  have a0:b0<256:=hl _ (by simp)
  have a1:b1<256:=hl _ (by simp)
  have a2:b2<256:=hl _ (by simp)
  have a3:b3<256:=hl _ (by simp)
  refine RnC.enter' Tryz.f135 _ 25 [.tmp 2] (hS.nw _ _ _ (by simp)) bd135 Tryz.func135 rfl rfl rfl ?_
  simp (maxSteps:=1000000) -dsimp (disch:=(repeat first | rw [nxn] | rw [nxp]);try omega) only [go_sem,evLen]
  refine syDraw.go0 (by kernel_rfl) ?_
  simp (maxSteps:=1000000) -dsimp (disch:=(repeat first | rw [nxn] | rw [nxp]);try omega) only [go_sem,evLen,hg,q0,q1,q2,q3,cv,Nat.mul_one]
  refine ⟨?_,(Fr.refl h).more _ (by omega)⟩
  rw [four_or a0 a1 a2 a3,iw_ofNat (four_lt a0 a1 a2 a3)]
  rfl

set_option maxHeartbeats 4000000 in
theorem sumC (hS:Wl S) {h:AH} {v:AV} {l:List Nat} (hb:Bs h v l) (hl:∀b∈l,b<256) (hn:l.length≤1099511627776):RnC Tryz.prog S 117 [v] h fun r h'=>r=.int .u32 (sum l:Nat)∧Fr h h':=by
 refine RnC.enter' Tryz.f117 _ 27 [.tmp 2] (hS.nw _ _ _ (by simp)) bd117 Tryz.func117 rfl rfl rfl ?_
 rcases hb with ⟨rfl,rfl⟩ | ⟨id,off,c,cs,o,tx,rfl,hg,hid,hlen,hc,hx⟩
 ·simp (maxSteps:=1000000) -dsimp (disch:=(repeat first | rw [nxn] | rw [nxp]);try omega) only [go_sem,evLen]
  refine loopK_unroll ?_
  simp (maxSteps:=1000000) -dsimp (disch:=(repeat first | rw [nxn] | rw [nxp]);try omega) only [go_sem,evLen]
  exact ⟨by kernel_rfl,Fr.refl _⟩
 ·simp (maxSteps:=1000000) -dsimp (disch:=(repeat first | rw [nxn] | rw [nxp]);try omega) only [go_sem,evLen]
  refine loopK_of (RnL.rounds (Q:=fun ex s=>ex=.exit 0∧Fr h s.h∧s.d=[]∧s.t.get 3=some (.int .u32 (iw (BitVec.ofNat 32 (sumGo l 1 0).1)))∧s.t.get 4=some (.int .u32 (iw (BitVec.ofNat 32 (sumGo l 1 0).2))))
   (fun m s=>Fr h s.h∧s.d=[]∧s.t.get 7=some (.sl id off l.length 1 c)∧s.t.get 8=some (.int .i64 (l.length:Nat))∧∃i x y:Nat,s.t.get 9=some (.int .i64 (i:Nat))∧s.t.get 3=some (.int .u32 (iw (BitVec.ofNat 32 x)))∧s.t.get 4=some (.int .u32 (iw (BitVec.ofNat 32 y))) ∧
    i≤l.length∧x<65521∧y<65521∧sumGo (l.drop i) x y=sumGo l 1 0∧m=l.length-i) ?_ l.length ?_) ?_
  ·rintro m ⟨t,h1,d⟩ ⟨e1,e2,g7,g8,i,x,y,g9,g3,g4,hi,hx3,hy4,hs,rfl⟩
   dsimp only at e1 e2 g7 g8 g9 g3 g4
   subst e2
   by_cases c1:(i:Int)<(l.length:Nat)
   ·have hil:i<l.length:=by omega
    obtain ⟨b,hbi⟩:∃b,l[i]? = some b:=⟨_,List.getElem?_eq_getElem hil⟩
    have hb256:b<256:=hl _ (List.mem_of_getElem? hbi)
    have q:=bs_get hx hbi
    have hdrop:l.drop i=b::l.drop (i+1):=by rw [List.drop_eq_getElem_cons hil,(List.getElem?_eq_some_iff.1 hbi).2]
    have hg1:h1.get id=some (.cells cs o tx):=(e1.get id hid).trans hg
    have hm1:=sum_step (x:=x) (c:=b) hx3 (by omega)
    have hm2:=sum_step (x:=y) (c:=(x+b)%65521) hy4 (by omega)
    simp (maxSteps:=1000000) -dsimp (disch:=(repeat first | rw [nxn] | rw [nxp]);try omega) only [go_sem,evLen,c1,g7,g8,g9,g3,g4,hg1,q,cv,hm1,hm2,Nat.mul_one]
    refine ⟨l.length-(i+1),by omega,e1,trivial,trivial,trivial,i+1,(x+b)%65521,(y+(x+b)%65521)%65521,rfl,rfl,rfl,by omega,Nat.mod_lt _ (by decide),Nat.mod_lt _ (by decide),?_,rfl⟩
    rw [←hs,hdrop];rfl
   ·obtain rfl:i=l.length:=by omega
    simp (maxSteps:=1000000) -dsimp (disch:=(repeat first | rw [nxn] | rw [nxp]);try omega) only [go_sem,evLen,c1,g7,g8,g9,g3,g4]
    rw [List.drop_length] at hs
    rw [←hs]
    exact ⟨trivial,e1,trivial,rfl,rfl⟩
  ·simp (maxSteps:=1000000) -dsimp (disch:=(repeat first | rw [nxn] | rw [nxp]);try omega) only [go_sem,evLen]
   exact ⟨Fr.refl _,trivial,trivial,trivial,0,1,0,rfl,rfl,rfl,Nat.zero_le _,by decide,by decide,rfl,rfl⟩
  ·rintro ex ⟨t,h1,d⟩ ⟨rfl,e1,rfl,g3,g4⟩
   dsimp only at e1 g3 g4
   simp (maxSteps:=1000000) -dsimp (disch:=(repeat first | rw [nxn] | rw [nxp]);try omega) only [go_sem,evLen,g3,g4]
   refine ⟨?_,e1⟩
   obtain ⟨l1,l2⟩:=sumGo_lt l 1 0 (by decide) (by decide)
   rw [sum_end l1 l2]
   rfl

theorem unf_short {l:List Nat} (h:l.length<4):unfE l=5:=by unfold unfE;rw [if_pos h]
theorem unf_long {l:List Nat} (h4:4≤l.length) (h:1048576<told l):unfE l=4:=by unfold unfE;rw [if_neg (by omega),if_pos h]
theorem unf_more {l:List Nat} (h4:4≤l.length) (h:told l≤1048576) (hm:l.length<told l+8):unfE l=5:=by unfold unfE;rw [if_neg (by omega),if_neg (by omega),if_pos hm]
theorem unf_sum {l:List Nat} (h4:4≤l.length) (h:told l≤1048576) (hm:told l+8≤l.length):unfE l=if told (l.drop (told l+4))=sum (l.take (told l+4)) then 0 else 4:=by
 unfold unfE;rw [if_neg (by omega),if_neg (by omega),if_neg (by omega)]

set_option maxHeartbeats 8000000 in
theorem unfC (hS:Wl S) {h:AH} {v:AV} {l:List Nat} (hb:Bs h v l) (hl:∀b∈l,b<256) (hn:l.length≤1099511627776) :
  RnC Tryz.prog S 101 [v] h fun r h'=>r=.tup [.str (upc l),.int .i64 (upn l:Nat),.int .i64 (unfE l:Nat)]∧Fr h h':=by
 refine RnC.enter' Tryz.f101 _ 37 [.tmp 2,.tmp 3,.tmp 4] (hS.nw _ _ _ (by simp)) bd101 Tryz.func101 rfl rfl rfl ?_
 have hb0:=hb
 rcases hb with ⟨rfl,rfl⟩ | ⟨id,off,c,cs,o,tx,rfl,hg,hid,hlen,hc,hx⟩
 ·simp (maxSteps:=1000000) -dsimp (disch:=(repeat first | rw [nxn] | rw [nxp]);try omega) only [go_sem,evLen,bytes0]
  exact ⟨rfl,Fr.refl _⟩
 ·by_cases c1:(l.length:Int)<4
  ·simp (maxSteps:=1000000) -dsimp (disch:=(repeat first | rw [nxn] | rw [nxp]);try omega) only [go_sem,evLen,bytes0,c1]
   have k:=unf_short (l:=l) (by omega)
   exact ⟨by simp only [upc,upn,k];rfl,Fr.refl _⟩
  ·have h4:4≤l.length:=by omega
   simp (maxSteps:=1000000) -dsimp (disch:=(repeat first | rw [nxn] | rw [nxp]);try omega) only [go_sem,evLen,bytes0,c1]
   refine callK_of (toldC hS hb0 h4 hl) ?_
   rintro r h1 ⟨rfl,hf1⟩
   by_cases c2:(1048576:Int)<(told l:Nat)
   ·simp (maxSteps:=1000000) -dsimp (disch:=(repeat first | rw [nxn] | rw [nxp]);try omega) only [go_sem,evLen,c2,bytes0]
    have k:=unf_long h4 (by omega)
    exact ⟨by simp only [upc,upn,k];rfl,hf1⟩
   ·by_cases c3:(l.length:Int)<((told l:Nat):Int)+8
    ·simp (maxSteps:=1000000) -dsimp (disch:=(repeat first | rw [nxn] | rw [nxp]);try omega) only [go_sem,evLen,c2,c3,bytes0,cv76]
     have k:=unf_more h4 (by omega) (by omega)
     exact ⟨by simp only [upc,upn,k];rfl,hf1⟩
    ·simp (maxSteps:=1000000) -dsimp (disch:=(repeat first | rw [nxn] | rw [nxp]);try omega) only [go_sem,evLen,c2,c3,bytes0,cv76]
     refine syDraw.go0 (by kernel_rfl) ?_
     have k:=unf_sum h4 (by omega) (by omega)
     obtain ⟨v1,s1,b1,w1,_⟩:=(hb0.fr hf1).slice_from Tryz.underlying87 tz5 (lo:=told l+4) (by omega)
     obtain ⟨v2,s2,b2,w2,_⟩:=(hb0.fr hf1).slice_to Tryz.underlying87 tz5 (hi:=told l+4) (by omega)
     obtain ⟨v3,s3,b3,w3,_⟩:=(hb0.fr hf1).slice_mid Tryz.underlying87 tz5 (lo:=4) (hi:=told l+4) (by omega) (by omega)
     have e4:((told l+4:Nat):Int)=((told l:Nat):Int)+8-4:=by omega
     rw [e4] at s1 s2 s3
     rw [show ((4:Nat):Int)=4 from rfl] at s3
     simp (maxSteps:=1000000) -dsimp (disch:=(repeat first | rw [nxn] | rw [nxp]);try omega) only [go_sem,evLen,c2,c3,bytes0,cv76,s1]
     refine callK_of (toldC hS (b1.fr ((Fr.refl h1).more _ (by omega))) (by simp;omega) (fun b hm=>hl b (List.mem_of_mem_drop hm))) ?_
     rintro r h2 ⟨rfl,hf2⟩
     simp (maxSteps:=1000000) -dsimp (disch:=(repeat first | rw [nxn] | rw [nxp]);try omega) only [go_sem,evLen,c2,c3,bytes0,cv76,s2]
     refine callK_of (sumC hS (b2.fr (((Fr.refl h1).more _ (by omega)).trans hf2)) (fun b hm=>hl b (List.mem_of_mem_take hm)) (by simp;omega)) ?_
     rintro r h3 ⟨rfl,hf3⟩
     have hfa:Fr h h3:=((hf1.more _ (by omega)).trans hf2).trans hf3
     by_cases c4:told (l.drop (told l+4))=sum (l.take (told l+4))
     ·have c4':((told (l.drop (told l+4)):Nat):Int)=((sum (l.take (told l+4)):Nat):Int):=by rw [c4]
      rw [if_pos c4] at k
      have tx3:=(b3.fr (((Fr.refl h1).more _ (by omega)).trans (hf2.trans hf3))).text Tryz.underlying87 Tryz.underlying5 Tryz.underlying9 (fun b hm=>hl b (List.mem_of_mem_take (List.mem_of_mem_drop hm)))
      simp (maxSteps:=1000000) -dsimp (disch:=(repeat first | rw [nxn] | rw [nxp]);try omega) only [go_sem,evLen,c4',s3,tx3]
      refine ⟨?_,hfa⟩
      ·simp only [upc,upn,k,if_true]
       rfl
     ·have c4':¬((told (l.drop (told l+4)):Nat):Int)=((sum (l.take (told l+4)):Nat):Int):=by omega
      rw [if_neg c4] at k
      simp (maxSteps:=1000000) -dsimp (disch:=(repeat first | rw [nxn] | rw [nxp]);try omega) only [go_sem,evLen,c4',bytes0]
      refine ⟨?_,hfa⟩
      ·simp only [upc,upn,k]
       rfl

theorem ai9:appI Tryz.prog 9=some (1,16):=by kernel_rfl
def tot (l:List Nat):List (List Nat)×Nat×Nat:=scn (l.length+1) l
theorem drop_add {l:List Nat} {w k:Nat}:(l.drop w).drop k=l.drop (w+k):=by rw [List.drop_drop]

set_option maxHeartbeats 8000000 in
theorem scanC (hS:Wl S) {h:AH} {v:AV} {l:List Nat} (hb:Bs h v l) (hl:∀b∈l,b<256) (hn:l.length≤1048576) :
  RnC Tryz.prog S 59 [v] h fun r h'=>∃sv,r=.tup [sv,.int .i64 ((tot l).2.1:Nat),.int .i64 ((tot l).2.2:Nat)]∧Ss h.nx h' sv (tot l).1∧Fr h h':=by
 refine RnC.enter' Tryz.f59 _ 38 [.tmp 2,.tmp 3,.tmp 4] (hS.nw _ _ _ (by simp)) bd59 Tryz.func59 rfl rfl rfl ?_
 have hb0:=hb
 rcases hb with ⟨rfl,rfl⟩ | ⟨id,off,c,cs,o,tx,rfl,hg,hid,hlen,hc,hx⟩
 ·simp (maxSteps:=1000000) -dsimp (disch:=(repeat first | rw [nxn] | rw [nxp]);try omega) only [go_sem,evLen]
  refine loopK_unroll ?_
  simp (maxSteps:=1000000) -dsimp (disch:=(repeat first | rw [nxn] | rw [nxp]);try omega) only [go_sem,evLen]
  exact ⟨.nilsl,rfl,.inl ⟨rfl,rfl⟩,Fr.refl _⟩
 simp (maxSteps:=1000000) -dsimp (disch:=(repeat first | rw [nxn] | rw [nxp]);try omega) only [go_sem,evLen]
 refine loopK_of (RnL.rounds (Q:=fun ex s=>Fr h s.h∧s.d=[]∧∃sv,Ss h.nx s.h sv (tot l).1∧s.t.get 2=some sv∧s.t.get 3=some (.int .i64 ((tot l).2.1:Nat))∧((ex=.exit 0∧(tot l).2.2=0)∨(ex=.ret∧s.t.get 4=some (.int .i64 ((tot l).2.2:Nat)))))
  (fun m s=>Fr h s.h∧s.d=[]∧s.t.get 0=some (.sl id off l.length 1 c)∧∃(sv:AV) (w f:Nat) (acc:List (List Nat)),s.t.get 2=some sv∧Ss h.nx s.h sv acc∧s.t.get 3=some (.int .i64 (w:Nat))∧w≤l.length∧l.length-w<f ∧
   acc++(scn f (l.drop w)).1=(tot l).1∧w+(scn f (l.drop w)).2.1=(tot l).2.1∧(scn f (l.drop w)).2.2=(tot l).2.2∧acc.length≤w∧m=l.length-w) ?_ l.length ?_) ?_
 ·rintro m ⟨t,h1,d⟩ ⟨e1,e2,g0,sv,w,f,acc,g2,hs,g3,hw,hf,r1,r2,r3,hal,rfl⟩
  dsimp only at e1 e2 g0 g2 hs g3
  subst e2
  obtain ⟨f,rfl⟩:∃f',f=f'+1:=⟨f-1,by omega⟩
  by_cases c1:(w:Int)<(l.length:Nat)
  ·obtain ⟨v1,s1,b1,w1,_⟩:=(hb0.fr e1).slice_from Tryz.underlying87 tz5 (lo:=w) hw
   have hl1:∀b∈l.drop w,b<256:=fun b hm=>hl b (List.mem_of_mem_drop hm)
   simp (maxSteps:=1000000) -dsimp (disch:=(repeat first | rw [nxn] | rw [nxp]);try omega) only [go_sem,evLen,c1,g0,g2,g3,s1]
   refine callK_of (unfC hS b1 hl1 (by simp;omega)) ?_
   rintro r h2 ⟨rfl,hf2⟩
   rcases unfE_cases (l.drop w) with k | k | k
   ·simp only [scn,k] at r1 r2 r3
    simp (maxSteps:=1000000) -dsimp (disch:=(repeat first | rw [nxn] | rw [nxp]);try omega) only [go_sem,evLen,k,g0,g2,g3,upc,upn]
    refine ⟨e1.trans hf2,trivial,sv,?_,rfl,?_,.inr ⟨trivial,?_⟩⟩
    ·simp at r1
     rw [←r1];exact hs.fr hf2
    ·simp at r2
     rw [←r2]
    ·simp at r3
     rw [←r3];rfl
   ·obtain ⟨k1,k2⟩:=unfE_okk k
    have hdl:(l.drop w).length=l.length-w:=by simp
    simp only [scn,k,if_true] at r1 r2 r3
    have kc:upc (l.drop w)=piece (l.drop w):=by unfold upc;rw [if_pos k]
    have kn:upn (l.drop w)=told (l.drop w)+8:=by unfold upn;rw [if_pos k]
    obtain ⟨v4,h4,ha,hf4,hs4,_⟩:=Ss.app (P:=Tryz.prog) (h0:=h) (h:=h2.new (.cells [.str (piece (l.drop w))] true false)) (id1:=h2.nx) (c:=some 1) (o:=true) (t:=false) (p:=piece (l.drop w)) Tryz.underlying66 ai9 (by decide) (hs.fr (hf2.trans (Fr.new _ _))) ((e1.trans hf2).news _) (by omega) (AH.get_new_eq rfl) (Nat.lt_succ_self _) (by
     intro id off n sz c hh
     rcases hs with ⟨hh2,_⟩ | ⟨id',hh2,_,hh4,_⟩
     ·rw [hh] at hh2;cases hh2
     ·rw [hh] at hh2;cases hh2
      have:=hf2.nx
      omega)
    simp (maxSteps:=1000000) -dsimp (disch:=(repeat first | rw [nxn] | rw [nxp]);try omega) only [go_sem,evLen,k,kc,kn,g0,g2,g3,ha]
    rw [drop_add] at r1 r2 r3
    refine ⟨l.length-(w+(told (l.drop w)+8)),by omega,hf4,trivial,trivial,v4,w+(told (l.drop w)+8),f,acc++[piece (l.drop w)],rfl,hs4,?_,by omega,by omega,?_,?_,r3,by simp;omega,rfl⟩
    ·rfl
    ·simpa using r1
    ·omega
   ·simp only [scn,k] at r1 r2 r3
    simp (maxSteps:=1000000) -dsimp (disch:=(repeat first | rw [nxn] | rw [nxp]);try omega) only [go_sem,evLen,k,g0,g2,g3,upc,upn]
    refine ⟨e1.trans hf2,trivial,sv,?_,rfl,?_,.inr ⟨trivial,?_⟩⟩
    ·simp at r1
     rw [←r1];exact hs.fr hf2
    ·simp at r2
     rw [←r2]
    ·simp at r3
     rw [←r3];rfl
  ·obtain rfl:w=l.length:=by omega
   simp (maxSteps:=1000000) -dsimp (disch:=(repeat first | rw [nxn] | rw [nxp]);try omega) only [go_sem,evLen,c1,g0,g2,g3]
   have k:unfE (l.drop l.length)=5:=unf_short (by simp)
   simp only [scn,k] at r1 r2 r3
   refine ⟨e1,trivial,sv,?_,rfl,?_,.inl ⟨trivial,?_⟩⟩
   ·simp at r1
    rw [←r1];exact hs
   ·simp at r2
    rw [←r2]
   ·simp at r3
    rw [←r3]
 ·simp (maxSteps:=1000000) -dsimp (disch:=(repeat first | rw [nxn] | rw [nxp]);try omega) only [go_sem,evLen]
  exact ⟨Fr.refl _,trivial,trivial,.nilsl,0,l.length+1,[],rfl,.inl ⟨rfl,rfl⟩,rfl,Nat.zero_le _,by omega,rfl,by rw [Nat.zero_add];rfl,rfl,Nat.le_refl _,rfl⟩
 ·rintro ex ⟨t,h1,d⟩ ⟨e1,rfl,sv,hs,g2,g3,⟨rfl,r3⟩ | ⟨rfl,g4⟩⟩
  ·dsimp only at e1 hs g2 g3
   simp (maxSteps:=1000000) -dsimp (disch:=(repeat first | rw [nxn] | rw [nxp]);try omega) only [go_sem,evLen,g2,g3]
   exact ⟨sv,by rw [r3];rfl,hs,e1⟩
  ·dsimp only at e1 hs g2 g3 g4
   simp (maxSteps:=1000000) -dsimp (disch:=(repeat first | rw [nxn] | rw [nxp]);try omega) only [go_sem,evLen,g2,g3,g4]
   exact ⟨sv,rfl,hs,e1⟩

end
end Go.Proofs.YtaooopaemphfjaaGreatDoor.tre
end

section
namespace Go.Proofs.YtaooopaemphfjaaGreatDoor.tre
open Go Go.Abs Go.Abs.Wal Go.Proofs
set_option maxRecDepth 100000
set_option linter.unusedVariables false
set_option linter.unusedSimpArgs false

theorem Bn.appG {xt:TypeId} {d:TypeDesc} {h0 h:AH} {v x:AV} {l m:List Nat} (hd:Tryz.prog.underlying xt=some d) (hni:notInt d=true) (hb:Bn h0.nx h v l) (hn:lenA x=some m.length) (hnew:firstA h 1 m.length x=some (byC m)) (hf:Fr h0 h) (hl:l.length+m.length≤1073741824) :
  ∃v' h',evAppend Tryz.prog h #[87,xt] v x=some (.val v' h')∧Fr h0 h'∧Bn h0.nx h' v' (l++m):=by
 rcases hb with ⟨rfl,rfl⟩ | ⟨id,c,cs,tx,rfl,h2,h3,h4,h5,h6,h7⟩
 ·rw [evAppend_eq (len:=0) (old:=[]) Tryz.underlying87 hd hni ai5 hn hnew rfl rfl (byC_all m) (by omega) (by omega) rfl]
  by_cases hm:m.length=0
  ·rw [if_pos hm]
   have:m=[]:=List.length_eq_zero_iff.1 hm
   subst this
   exact ⟨_,_,rfl,hf,.inl ⟨rfl,rfl⟩⟩
  ·rw [if_neg hm]
   exact ⟨_,_,rfl,hf.news _,.inr ⟨h.nx,none,byC m,false,by simp,AH.get_new_eq rfl,Nat.lt_succ_self _,hf.nx,by rw [List.nil_append,←byC_length m,List.take_length],by rw [List.nil_append,byC_length];exact Nat.le_refl _,.inl rfl⟩⟩
 ·have hold:firstA h 1 l.length (.sl id 0 l.length 1 c)=some (byC l):=by
   rw [firstA_sl h2 (Nat.le_refl _) (by omega),List.drop_zero,Nat.mul_one,h5]
  rw [evAppend_eq Tryz.underlying87 hd hni ai5 hn hnew rfl hold (byC_all m) (by omega) (by omega) rfl]
  by_cases hm:m.length=0
  ·rw [if_pos hm]
   have:m=[]:=List.length_eq_zero_iff.1 hm
   subst this
   exact ⟨_,_,rfl,hf,.inr ⟨id,c,cs,tx,by simp,h2,h3,h4,by simpa using h5,by simpa using h6,by simpa using h7⟩⟩
  ·rw [if_neg hm]
   have hlm:(l++m).length=l.length+m.length:=by simp
   have hby:byC l++byC m=byC (l++m):=by simp [byC]
   have fin:∀(g:AH) (tf:Bool),Fr h0 g→g.nx=h.nx→∃v' h',newCells g (byC l++byC m) tf (fun id=>.sl id 0 (l.length+m.length) 1 none)=some (.val v' h')∧Fr h0 h'∧Bn h0.nx h' v' (l++m):=fun g tf hg hgn =>
    ⟨_,_,rfl,hg.news _,.inr ⟨g.nx,none,byC l++byC m,tf,by rw [hlm],AH.get_new_eq rfl,Nat.lt_succ_self _,hg.nx,by rw [hby,←byC_length (l++m),List.take_length],by rw [hby,byC_length];exact Nat.le_refl _,.inl rfl⟩⟩
   rcases h7 with rfl | rfl
   ·simp only
    rw [if_pos (by simp [ownBlock,h2])]
    exact fin _ _ (hf.del h4) rfl
   ·simp only
    rw [if_pos (by omega)]
    exact fin _ _ hf rfl
theorem str_first (h:AH) (s:List Nat):lenA (.str s)=some s.length∧firstA h 1 s.length (.str s)=some (byC s):=by
 refine ⟨rfl,?_⟩
 simp [firstA,byC]
/-! ### Numbers -/
theorem and127 (h:AH) (t:TypeId) (n:Nat) (hn:n<18446744073709551616):binA Tryz.prog h .and t (.int .u64 (n:Nat)) (.int .u64 127)=some (.int .u64 ((n%128:Nat):Int)):=by
 have e:(BitVec.ofInt 64 (n:Int) &&& BitVec.ofInt 64 127).toNat=n%128:=by
  rw [BitVec.toNat_and,BitVec.ofInt_natCast,BitVec.toNat_ofNat,Nat.mod_eq_of_lt hn]
  exact Nat.and_two_pow_sub_one_eq_mod n 7
 have e2:IntKind.u64.wrap ((n%128:Nat):Int)=((n%128:Nat):Int):=by
  show ((n%128:Nat):Int)%18446744073709551616=_
  omega
 rw [binA_and]
 show some (AV.int .u64 (IntKind.u64.wrap ((BitVec.ofInt 64 (n:Int) &&& BitVec.ofInt 64 127).toNat:Int)))=_
 rw [e,e2]
theorem shr7 (h:AH) (t:TypeId) (k:IntKind) (n:Nat):binA Tryz.prog h .shr t (.int .u64 (n:Nat)) (.int k 7)=some (.int .u64 ((n/128:Nat):Int)):=by
 rw [binA_shr,if_neg (by decide)]
 show some (AV.int .u64 ((n:Int).fdiv 128))=_
 rw [Int.fdiv_eq_ediv_of_nonneg _ (by decide)]
 congr 2
theorem cv64 (h:AH) (n:Nat) (hn:n<18446744073709551616):evConvert Tryz.prog h 3 62 (.int .i64 (n:Nat))=some (.val (.int .u64 (n:Nat)) h):=by
 have:IntKind.u64.wrap ((n:Nat):Int)=((n:Nat):Int):=by
  show ((n:Nat):Int)%18446744073709551616=_
  omega
 simp only [evConvert,Tryz.underlying3,Tryz.underlying62,val?,this]
theorem cv8 (h:AH) (n:Nat):evConvert Tryz.prog h 62 5 (.int .u64 (n:Nat))=some (.val (.int .u8 ((n%256:Nat):Int)) h):=by
 have:IntKind.u8.wrap ((n:Nat):Int)=((n%256:Nat):Int):=by
  show ((n:Nat):Int)%256=_
  omega
 simp only [evConvert,Tryz.underlying62,Tryz.underlying5,val?,this]
theorem or128 (h:AH) (t:TypeId) (n:Nat):∃m:Nat,binA Tryz.prog h .or t (.int .u8 (n:Nat)) (.int .u8 128)=some (.int .u8 (m:Nat)):=by
 rw [binA_or]
 refine ⟨(BitVec.ofInt 8 (n:Int) ||| BitVec.ofInt 8 128).toNat,?_⟩
 have hlt:=(BitVec.ofInt 8 (n:Int) ||| BitVec.ofInt 8 128).isLt
 show some (AV.int .u8 (IntKind.u8.wrap ((BitVec.ofInt 8 (n:Int) ||| BitVec.ofInt 8 128).toNat:Int)))=_
 have:IntKind.u8.wrap (((BitVec.ofInt 8 (n:Int) ||| BitVec.ofInt 8 128).toNat:Nat):Int)=(((BitVec.ofInt 8 (n:Int) ||| BitVec.ofInt 8 128).toNat:Nat):Int):=by
  show (((BitVec.ofInt 8 (n:Int) ||| BitVec.ofInt 8 128).toNat:Nat):Int)%256=_
  omega
 rw [this]
theorem and7 (h:AH) (t:TypeId) (n:Nat):∃m:Nat,binA Tryz.prog h .and t (.int .u8 (n:Nat)) (.int .u8 127)=some (.int .u8 (m:Nat)):=by
 rw [binA_and]
 refine ⟨(BitVec.ofInt 8 (n:Int) &&& BitVec.ofInt 8 127).toNat,?_⟩
 have hlt:=(BitVec.ofInt 8 (n:Int) &&& BitVec.ofInt 8 127).isLt
 show some (AV.int .u8 (IntKind.u8.wrap ((BitVec.ofInt 8 (n:Int) &&& BitVec.ofInt 8 127).toNat:Int)))=_
 have:IntKind.u8.wrap (((BitVec.ofInt 8 (n:Int) &&& BitVec.ofInt 8 127).toNat:Nat):Int)=(((BitVec.ofInt 8 (n:Int) &&& BitVec.ofInt 8 127).toNat:Nat):Int):=by
  show (((BitVec.ofInt 8 (n:Int) &&& BitVec.ofInt 8 127).toNat:Nat):Int)%256=_
  omega
 rw [this]
section
variable {S : Sums}
theorem revC (hS:Wl S) {n0:Nat} {h:AH} {v:AV} {l:List Nat} (hb:Bo n0 h v l) (hl:1≤l.length∧l.length≤3):RnC Tryz.prog S 113 [v] h fun r h'=>r=.tup []∧∃l',Bo n0 h' v l'∧l'.length=l.length∧h.nx≤h'.nx∧∀j,j<n0→h'.get j=h.get j:=by
 refine RnC.enter' Tryz.f113 _ 28 [] (hS.nw _ _ _ (by simp)) bd113 Tryz.func113 rfl rfl rfl ?_
 obtain ⟨id,c,cs,tx,rfl,h2,h3,h4,h5,h6,h7⟩:=hb
 match l,hl with
 | [a],_ =>
  simp (maxSteps:=1000000) -dsimp (disch:=(repeat first | rw [nxn] | rw [nxp]);try omega) only [go_sem,evLen]
  refine loopK_unroll ?_
  simp (maxSteps:=1000000) -dsimp (disch:=(repeat first | rw [nxn] | rw [nxp]);try omega) only [go_sem,evLen]
  exact ⟨trivial,[a],⟨id,c,cs,tx,rfl,h2,h3,h4,h5,h6,h7⟩,by first | trivial | rfl,by first | trivial | exact Nat.le_refl _,fun _ _=>by first | trivial | rfl⟩
 | [a,b],_ =>
  match cs,h5,h6 with
  | x::y::r,h5,h6 =>
   obtain ⟨rfl,rfl⟩:x=.int .u8 (a:Int)∧y=.int .u8 (b:Int):=by
    simpa [byC] using h5
   simp (maxSteps:=1000000) -dsimp (disch:=(repeat first | rw [nxn] | rw [nxp]);try omega) only [go_sem,evLen]
   refine loopK_unroll ?_
   simp (maxSteps:=1000000) -dsimp (disch:=(repeat first | rw [nxn] | rw [nxp]);try omega) only [go_sem,evLen]
   refine syDraw.go0 (by kernel_rfl) ?_
   simp (maxSteps:=1000000) -dsimp (disch:=(repeat first | rw [nxn] | rw [nxp]);try omega) only [go_sem,evLen,h2]
   refine loopK_unroll ?_
   simp (maxSteps:=1000000) -dsimp (disch:=(repeat first | rw [nxn] | rw [nxp]);try omega) only [go_sem,evLen]
   exact ⟨trivial,[b,a],⟨id,c,_,tx,rfl,AH.get_put_eq rfl,by show id<h.nx+16;omega,h4,by simp [byC],h6,h7⟩,by first | trivial | rfl,by show h.nx≤h.nx+16;omega,fun j hj=>by
    first | exact (AH.get_put_ne (by omega)).trans (AH.get_put_ne (by omega)) | exact AH.get_put_ne (by omega)⟩
 | [a,b,d],_ =>
  match cs,h5,h6 with
  | x::y::z::r,h5,h6 =>
   obtain ⟨rfl,rfl,rfl⟩:x=.int .u8 (a:Int)∧y=.int .u8 (b:Int)∧z=.int .u8 (d:Int):=by
    simpa [byC] using h5
   simp (maxSteps:=1000000) -dsimp (disch:=(repeat first | rw [nxn] | rw [nxp]);try omega) only [go_sem,evLen]
   refine loopK_unroll ?_
   simp (maxSteps:=1000000) -dsimp (disch:=(repeat first | rw [nxn] | rw [nxp]);try omega) only [go_sem,evLen]
   refine syDraw.go0 (by kernel_rfl) ?_
   simp (maxSteps:=1000000) -dsimp (disch:=(repeat first | rw [nxn] | rw [nxp]);try omega) only [go_sem,evLen,h2]
   refine loopK_unroll ?_
   simp (maxSteps:=1000000) -dsimp (disch:=(repeat first | rw [nxn] | rw [nxp]);try omega) only [go_sem,evLen]
   exact ⟨trivial,[d,b,a],⟨id,c,_,tx,rfl,AH.get_put_eq rfl,by show id<h.nx+16;omega,h4,by simp [byC],h6,h7⟩,by first | trivial | rfl,by show h.nx≤h.nx+16;omega,fun j hj=>by
    first | exact (AH.get_put_ne (by omega)).trans (AH.get_put_ne (by omega)) | exact AH.get_put_ne (by omega)⟩
end
end Go.Proofs.YtaooopaemphfjaaGreatDoor.tre
end
