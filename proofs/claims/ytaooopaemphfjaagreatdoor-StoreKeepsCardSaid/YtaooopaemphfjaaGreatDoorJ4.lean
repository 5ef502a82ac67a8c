/- Texts joined: SPc, SOa, RCk, RCl, RCm, RCn. -/
import Derived.Test.YtaooopaemphfjaaGreatDoorJ2
import Derived.Test.YtaooopaemphfjaaGreatDoorAb5
import Derived.ChangeShapes
import Derived.Test.YtaooopaemphfjaaGreatDoorAb7
import Derived.Test.YtaooopaemphfjaaGreatDoorG2
import Derived.Test.YtaooopaemphfjaaGreatDoorG5
set_option maxRecDepth 100000
set_option linter.unusedVariables false
set_option linter.unusedSimpArgs false
set_option maxHeartbeats 16000000
section
namespace Go.Proofs.YtaooopaemphfjaaGreatDoor.tbl
open Go Go.Abs Go.Abs.Rec Go.Proofs Go.ChangeShapes Go.RowKit
theorem cStr:Tryz.prog.cellsOf 9=1:=by kernel_rfl
theorem cBool:Tryz.prog.cellsOf 4=1:=by kernel_rfl
theorem cPair:Tryz.prog.cellsOf 58=3:=by kernel_rfl
theorem byL_of (s:ByteArray):byL (bytesOf s):=by
 intro b hb
 unfold bytesOf at hb
 obtain ⟨x,_,rfl⟩:=List.mem_map.1 hb
 exact x.toNat_lt
theorem ty_pair {h:AH} {avs:List AV} (hx:Ty Tryz.prog h 58 avs):∃p:Pr,avs=pc p∧byL p.1∧byL p.2.1:=by
 obtain ⟨hl,hf⟩:=hx.struct_inv Tryz.underlying58
 have hl3:avs.length=3:=hl.trans cPair
 match avs,hl3 with
 | [a0,a1,a2],_ =>
  have f0:=hf _ (List.mem_cons_self ..)
  have f1:=hf _ (List.mem_cons_of_mem _ (List.mem_cons_self ..))
  have f2:=hf _ (List.mem_cons_of_mem _ (List.mem_cons_of_mem _ (List.mem_cons_self ..)))
  simp only [cStr,cBool,List.drop_zero,List.drop_succ_cons,List.take_succ_cons,List.take_zero] at f0 f1 f2
  obtain ⟨k,e0,_⟩:=f0.str_inv Tryz.underlying9
  obtain ⟨q,e1,_⟩:=f1.str_inv Tryz.underlying9
  obtain ⟨b,e2⟩:=f2.bool_inv Tryz.underlying4
  cases e0;cases e1;cases e2
  exact ⟨(bytesOf k,(bytesOf q,b)),rfl,byL_of k,byL_of q⟩
theorem flat_range {cs:List AV} (F:Nat→Pr):∀n:Nat,n*3≤cs.length→(∀i,i<n→(cs.drop (i*3)).take 3=pc (F i))→cs.take (n*3)=((List.range n).map F).flatMap pc
 | 0,_,_=>by simp
 | n+1,hn,h=>by
  have ih:=flat_range F n (by omega) fun i hi=>h i (by omega)
  have e:(n+1)*3=n*3+3:=by omega
  rw [e,List.take_add,ih,h n (Nat.lt_succ_self n),List.range_succ,List.map_append,List.flatMap_append]
  simp
theorem ty_pairs {h:AH} {avs:List AV} (hx:Ty Tryz.prog h 22 avs) (hlt:∀id o,h.get id=some o→id<h.nx):∃v L,avs=[v]∧Ps h v L∧∀p∈L,byL p.1∧byL p.2.1:=by
 rcases hx.slice_inv Tryz.underlying22 with rfl | ⟨id,len,cs,rfl,hg,hl,hcs,hel⟩
 ·exact ⟨_,[],rfl,.inl ⟨rfl,rfl⟩,fun p hp=>by cases hp⟩
 ·rw [cPair] at hcs hel ⊢
  have key:∀i,∃p:Pr,i<len→(cs.drop (i*3)).take 3=pc p∧byL p.1∧byL p.2.1:=fun i=>by
   by_cases hi:i<len
   ·obtain ⟨p,h1,h2⟩:=ty_pair (hel i hi)
    exact ⟨p,fun _=>⟨h1,h2⟩⟩
   ·exact ⟨([],([],false)),fun hh=>absurd hh hi⟩
  obtain ⟨F,hF⟩:=Classical.axiomOfChoice key
  have hm:((List.range len).map F).length=len:=by simp
  refine ⟨_,(List.range len).map F,rfl,.inr ⟨id,0,none,cs,false,false,by rw [hm],hg,hlt _ _ hg,fun k hk=>(by cases hk),by rw [hm];omega,?_⟩,fun p hp=>?_⟩
  ·rw [hm,List.drop_zero]
   exact flat_range F len (by omega) fun i hi=>(hF i hi).1
  ·obtain ⟨i,hi,rfl⟩:=List.mem_map.1 hp
   exact (hF i (List.mem_range.1 hi)).2
theorem ps_le {h h2:AH} {v:AV} {l:KL (List Nat×Bool)} (hb:Ps h v l) (hl:∀id o,h.get id=some o→h2.get id=some o) (hn:h.nx≤h2.nx):Ps h2 v l:=by
 rcases hb with h1 | ⟨id,off,c,cs,o,t,h1,h3,h4,h5⟩
 ·exact .inl h1
 ·exact .inr ⟨id,off,c,cs,o,t,h1,hl _ _ h3,Nat.lt_of_lt_of_le h4 hn,h5⟩
section
variable {H : Type} {enc : TypeId × Value → H} {P : Program} {w : World} {base : Nat} {spare : Nat → Bool} {held : Bool}
theorem trodAll_five {t0 t1 t2 t3 t4:TypeId} {args:Array Value} {ds:List (DataW H)} {ps:List MemPlace} (h:DataW.TrodAll enc P w base spare held [t0,t1,t2,t3,t4] args.toList ds ps) :
  ∃v0 v1 v2 v3 v4 d0 d1 d2 d3 d4 p0 p1 p2 p3 p4,args=#[v0,v1,v2,v3,v4]∧ds=[d0,d1,d2,d3,d4]∧ps=p0++(p1++(p2++(p3++p4)))∧DataW.Trod enc P w base spare held t0 v0 d0 p0∧DataW.Trod enc P w base spare held t1 v1 d1 p1∧DataW.Trod enc P w base spare held t2 v2 d2 p2∧DataW.Trod enc P w base spare held t3 v3 d3 p3∧DataW.Trod enc P w base spare held t4 v4 d4 p4:=by
 obtain ⟨v0,vs,d0,ds',p0,q,hargs,rfl,rfl,hd0,hr0⟩:=trodAll_cons h
 obtain ⟨v1,vs1,d1,ds1,p1,q1,rfl,rfl,rfl,hd1,hr1⟩:=trodAll_cons hr0
 obtain ⟨v2,vs2,d2,ds2,p2,q2,rfl,rfl,rfl,hd2,hr2⟩:=trodAll_cons hr1
 obtain ⟨v3,vs3,d3,ds3,p3,q3,rfl,rfl,rfl,hd3,hr3⟩:=trodAll_cons hr2
 obtain ⟨v4,vs4,d4,ds4,p4,q4,rfl,rfl,rfl,hd4,hr4⟩:=trodAll_cons hr3
 obtain ⟨rfl,rfl,rfl⟩:=trodAll_nil hr4
 exact ⟨v0,v1,v2,v3,v4,d0,d1,d2,d3,d4,p0,p1,p2,p3,p4,by cases args;simp_all,rfl,by simp,hd0,hd1,hd2,hd3,hd4⟩
theorem trodAll_mk5 {t0 t1 t2 t3 t4:TypeId} {v0 v1 v2 v3 v4:Value} {d0 d1 d2 d3 d4:DataW H} {p0 p1 p2 p3 p4:List MemPlace} (h0:DataW.Trod enc P w base spare held t0 v0 d0 p0) (h1:DataW.Trod enc P w base spare held t1 v1 d1 p1) (h2:DataW.Trod enc P w base spare held t2 v2 d2 p2) (h3:DataW.Trod enc P w base spare held t3 v3 d3 p3) (h4:DataW.Trod enc P w base spare held t4 v4 d4 p4) :
  DataW.TrodAll enc P w base spare held [t0,t1,t2,t3,t4] [v0,v1,v2,v3,v4] [d0,d1,d2,d3,d4] (p0++(p1++(p2++(p3++p4)))):=⟨p0,_,h0,⟨p1,_,h1,trodAll_mk3 h2 h3 h4,rfl⟩,rfl⟩
end
open Go.Abs.Wal
def Qs (h:AH) (v:AV) (Ls:List (KL (List Nat×Bool))):Prop :=
 (v=.nilsl∧Ls=[])∨∃id cs,v=.sl id 0 Ls.length 1 none∧h.get id=some (.cells cs false false)∧id<h.nx∧∀(i:Nat) (l:KL (List Nat×Bool)),Ls[i]? = some l→∃w,cs[i]? = some w∧Ps h w l
theorem Qs.fr {h h':AH} {v:AV} {Ls:List (KL (List Nat×Bool))} (hv:Qs h v Ls) (f:Fr h h'):Qs h' v Ls:=by
 rcases hv with h1 | ⟨id,cs,h1,h2,h3,h4⟩
 ·exact .inl h1
 ·exact .inr ⟨id,cs,h1,(f.get id h3).trans h2,Nat.lt_of_lt_of_le h3 f.nx,fun i l hi=>let ⟨w,h5,h6⟩:=h4 i l hi;⟨w,h5,h6.fr f⟩⟩
theorem Qs.ln {h:AH} {v:AV} {Ls:List (KL (List Nat×Bool))} (hv:Qs h v Ls):(∀g,evLen Tryz.prog g #[43] v=some (.int .i64 (Ls.length:Nat)))∧oneA v=true:=by
 rcases hv with ⟨rfl,rfl⟩ | ⟨id,cs,rfl,_⟩
 ·exact ⟨fun g=>by simp [evLen,Tryz.underlying43],rfl⟩
 ·exact ⟨fun g=>by simp [evLen,Tryz.underlying43],rfl⟩
theorem Qs.at {h:AH} {v:AV} {Ls:List (KL (List Nat×Bool))} {i:Nat} {l:KL (List Nat×Bool)} (hv:Qs h v Ls) (hi:Ls[i]? = some l):∃id cs w,v=.sl id 0 Ls.length 1 none∧h.get id=some (.cells cs false false)∧cs[i]? = some w∧Ps h w l:=by
 rcases hv with ⟨_,rfl⟩ | ⟨id,cs,h1,h2,h3,h4⟩
 ·simp at hi
 ·obtain ⟨w,h5,h6⟩:=h4 i l hi
  exact ⟨id,cs,w,h1,h2,h5,h6⟩
theorem cPairs:Tryz.prog.cellsOf 22=1:=by kernel_rfl
theorem ty_pairss {h:AH} {avs:List AV} (hx:Ty Tryz.prog h 43 avs) (hlt:∀id o,h.get id=some o→id<h.nx):∃v Ls,avs=[v]∧Qs h v Ls∧∀l∈Ls,∀p∈l,byL p.1∧byL p.2.1:=by
 rcases hx.slice_inv Tryz.underlying43 with rfl | ⟨id,len,cs,rfl,hg,hl,hcs,hel⟩
 ·exact ⟨_,[],rfl,.inl ⟨rfl,rfl⟩,fun p hp=>by cases hp⟩
 ·rw [cPairs] at hcs hel ⊢
  have key:∀i,∃q:AV×KL (List Nat×Bool),i<len→(cs.drop (i*1)).take 1=[q.1]∧Ps h q.1 q.2∧∀p∈q.2,byL p.1∧byL p.2.1:=fun i=>by
   by_cases hi:i<len
   ·obtain ⟨w,l,h1,h2,h3⟩:=ty_pairs (hel i hi) hlt
    exact ⟨(w,l),fun _=>⟨h1,h2,h3⟩⟩
   ·exact ⟨(.nilsl,[]),fun hh=>absurd hh hi⟩
  obtain ⟨F,hF⟩:=Classical.axiomOfChoice key
  have hm:((List.range len).map fun i=>(F i).2).length=len:=by simp
  refine ⟨_,(List.range len).map fun i=>(F i).2,rfl,.inr ⟨id,cs,by rw [hm],hg,hlt _ _ hg,fun i l hi=>?_⟩,fun l hl=>?_⟩
  ·have hil:i<len:=by have:=(List.getElem?_eq_some_iff.1 hi).1;rwa [hm] at this
   have e:((List.range len).map fun i=>(F i).2)[i]? = some (F i).2:=by simp [hil]
   rw [e] at hi
   cases hi
   obtain ⟨h1,h2,_⟩:=hF i hil
   refine ⟨(F i).1,?_,h2⟩
   have:((cs.drop (i*1)).take 1)[0]? = some (F i).1:=by rw [h1];rfl
   simpa using this
  ·obtain ⟨i,hi,rfl⟩:=List.mem_map.1 hl
   exact (hF i (List.mem_range.1 hi)).2.2
theorem qs_le {h h2:AH} {v:AV} {Ls:List (KL (List Nat×Bool))} (hb:Qs h v Ls) (hl:∀id o,h.get id=some o→h2.get id=some o) (hn:h.nx≤h2.nx):Qs h2 v Ls:=by
 rcases hb with h1 | ⟨id,cs,h1,h3,h4,h5⟩
 ·exact .inl h1
 ·exact .inr ⟨id,cs,h1,hl _ _ h3,Nat.lt_of_lt_of_le h4 hn,fun i l hi=>let ⟨w,h6,h7⟩:=h5 i l hi;⟨w,h6,ps_le h7 hl hn⟩⟩
structure RdB (R:Nat) (h:AH) (B:List Nat) (I e:Nat):Prop where
 hR:∃bv,h.get R=some (.cells [bv,.int .i64 (I:Nat),.int .i64 (e:Nat)] true false)∧Bs h bv B∧Nb R bv
 Rn:R<h.nx
 i:I≤B.length
 b:∀b∈B,b<256
 l:B.length≤100000000
section
variable {S : Sums}
structure Tx (S:Sums):Prop extends Tr2 S where
 nx:∀f args h,f∈[]→S f args h=none
end
section
variable {S : Sums}
end
theorem appP2 {h0 h:AH} {v x:AV} {l m:KL (List Nat×Bool)} (hb:Ez 3 h0.nx h v (l.flatMap pc)) (hx:Ps h x m) (hf:Fr h0 h) (hl:l.length+m.length≤1000000) :
  ∃v' h',evAppend Tryz.prog h #[22,22] v x=some (.val v' h')∧Fr h0 h'∧Ez 3 h0.nx h' v' ((l++m).flatMap pc)∧oneA v'=true∧(v'=v∨∃id n,v'=.sl id 0 n 3 none∧h.nx≤id)∧h.nx≤h'.nx:=by
 obtain ⟨q1,q2⟩:=hx.first
 obtain ⟨v',h',ha,hf',hz',ov',o1,o2,o3⟩:=Ez.app (P:=Tryz.prog) (z:=3) (h0:=h0) (h:=h) (v:=v) (l:=l.flatMap pc) (x:=x) (k:=m.length) (m:=m.flatMap pc) Tryz.underlying22 Tryz.underlying22 rfl aiP (by decide) (by decide) hb q1 q2 (pc_len m) (pc_all m) hf (by rw [pc_len,pc_len];omega)
 exact ⟨v',h',ha,hf',by rw [List.flatMap_append];exact hz',ov',o3.imp (fun h=>h.2) id,o1⟩
theorem ezPutNe {z n0:Nat} {h:AH} {v:AV} {l:List AV} {j:Nat} {o:AO} (hb:Ez z n0 h v l) (hj:∀id o n z c,v=.sl id o n z c→id≠j):Ez z n0 (h.put j o) v l:=by
 rcases hb with h1 | ⟨id,n,c,tx,h1,h2,h3,h4,h5⟩
 ·exact .inl h1
 ·exact .inr ⟨id,n,c,tx,h1,(AH.get_put_ne (hj _ _ _ _ _ h1)).trans h2,h3,h4,h5⟩
theorem svP (a b:List Nat) (c:Bool):sameAV 20 (.agg [.str a,.str b,.bool c]) (.agg [.str a,.str b,.bool c])=true:=by simp [sameAV,sameL]
theorem lastD_take {l:KL (List Nat×Bool)} {i:Nat} {p:Pr} (h:l[i]? = some p):lastD (l.take (i+1))=putP (lastD (l.take i)) p.1 p.2:=by
 rw [List.take_add_one,h]
 unfold lastD
 rw [List.foldl_append];rfl
section
variable {S : Sums}
structure Te (S:Sums):Prop extends Tx S,Td S where
 ne:∀f args h,f∈[40,41,19]→S f args h=none
theorem fineC (hS:Te S) (h:AH) (p:Pr):RnC Tryz.prog S 40 [aP p] h fun r h'=>r=.int .i64 ((if badL p=true then 3 else 0:Nat):Int)∧Fr h h':=by
 refine RnC.enter' Tryz.f40 _ 18 [.tmp 2] (hS.ne _ _ _ (by simp)) bd40 Tryz.func40 rfl rfl rfl ?_
 have d1:∀(o1:AO),(h.new o1).get h.nx=some o1:=fun o1=>AH.get_new_eq rfl
 have ls:∀g s,evLen Tryz.prog g #[9] (.str s)=some (.int .i64 ((s.length:Nat):Int)):=fun g s=>by simp [evLen,Tryz.underlying9]
 unfold badL
 by_cases c1:512<p.1.length
 ·have c2:(512:Int)<((p.1.length:Nat):Int):=by omega
  simp -dsimp (disch:=(repeat first | rw [nxn] | rw [nxp]);try omega) only [go_sem,d1,aP,ls,c2]
  exact ⟨by simp [c1],Fr.new _ _⟩
 ·have c2:¬(512:Int)<((p.1.length:Nat):Int):=by omega
  cases hg:p.2.2
  ·by_cases c3:65536<p.2.1.length
   ·have c4:(65536:Int)<((p.2.1.length:Nat):Int):=by omega
    simp -dsimp (disch:=(repeat first | rw [nxn] | rw [nxp]);try omega) only [go_sem,d1,aP,ls,c2,hg,c4]
    exact ⟨by simp [c1,c3],Fr.new _ _⟩
   ·have c4:¬(65536:Int)<((p.2.1.length:Nat):Int):=by omega
    simp -dsimp (disch:=(repeat first | rw [nxn] | rw [nxp]);try omega) only [go_sem,d1,aP,ls,c2,hg,c4]
    exact ⟨by simp [c1,c3],Fr.new _ _⟩
  ·by_cases c3:65536<p.2.1.length
   ·have c4:(65536:Int)<((p.2.1.length:Nat):Int):=by omega
    simp -dsimp (disch:=(repeat first | rw [nxn] | rw [nxp]);try omega) only [go_sem,d1,aP,ls,c2,hg,c4]
    exact ⟨by simp [c1],Fr.new _ _⟩
   ·have c4:¬(65536:Int)<((p.2.1.length:Nat):Int):=by omega
    simp -dsimp (disch:=(repeat first | rw [nxn] | rw [nxp]);try omega) only [go_sem,d1,aP,ls,c2,hg,c4]
    exact ⟨by simp [c1],Fr.new _ _⟩
theorem lastDC (hS:Te S) {h:AH} {v:AV} {l:KL (List Nat×Bool)} (hv:Ps h v l) (hl:l.length≤100000):RnC Tryz.prog S 41 [v] h fun r h'=>Ps h' r (lastD l)∧Fr h h':=by
 refine RnC.enter' Tryz.f41 _ 66 [.tmp 2] (hS.ne _ _ _ (by simp)) bd41 Tryz.func41 rfl rfl rfl ?_
 obtain ⟨lv,sv,ov⟩:=hv.ln
 simp -dsimp (disch:=(repeat first | rw [nxn] | rw [nxp]);try omega) only [go_sem,lv,ov]
 refine loopK_of (RnL.rounds (Q:=fun ex u=>ex=.exit 0∧u.d=[]∧Fr h u.h∧∃w,u.t.get 3=some w∧Ps u.h w (lastD l))
  (fun m u=>u.d=[]∧Fr h u.h∧u.t.get 0=some v∧∃(i:Nat) (w:AV),u.t.get 4=some (.int .i64 (i:Nat))∧u.t.get 3=some w∧Ps u.h w (lastD (l.take i))∧i≤l.length∧m=l.length-i) ?_ l.length ?_) ?_
 ·rintro m ⟨tt,g,d⟩ ⟨e9,e1,g0,i,w,g4,g3,hw,hi,rfl⟩
  dsimp only at e9 e1 g0 g4 g3 hw
  subst e9
  obtain ⟨lw,sw,ow⟩:=hw.ln
  by_cases c4:(i:Int)<(l.length:Nat)
  ·have hil:i<l.length:=by omega
   obtain ⟨p,hp⟩:∃p,l[i]? = some p:=⟨_,List.getElem?_eq_getElem hil⟩
   obtain ⟨id,off,c,cs,o,tx,hveq,hgi,hidl,hle,hx,x0,x1,x2⟩:=Ps.at hv hp
   subst hveq
   have hgx:=(e1.get id hidl).trans hgi
   have hst:=lastD_take hp
   have hLl:=last_len (l.take i)
   rw [List.length_take] at hLl
   generalize lastD (l.take i)=L at hw hst lw hLl
   have hpd:=put_doc p.1 p.2 L
   rw [←hst] at hpd
   have hpl:=plcP_le L p.1
   simp -dsimp (disch:=(repeat first | rw [nxn] | rw [nxp]);try omega) only [go_sem,lv,c4,g0,g4,g3]
   refine loopK_of (RnL.rounds (Q:=fun ex u=>ex=.exit 2∧u.d=[]∧Fr g u.h∧u.t.get 0=some (.sl id off l.length 3 c)∧u.t.get 4=some (.int .i64 (i:Nat))∧u.t.get 3=some w∧u.t.get 5=some (.int .i64 (plcP L p.1:Nat)))
    (fun m u=>u.d=[]∧Fr g u.h∧u.t.get 0=some (.sl id off l.length 3 c)∧u.t.get 4=some (.int .i64 (i:Nat))∧u.t.get 3=some w∧∃k:Nat,u.t.get 5=some (.int .i64 (k:Nat))∧k≤L.length∧(∀j e,j<k→L[j]? = some e→lessA e.1 p.1=true)∧m=L.length-k) ?_ L.length ?_) ?_
   ·rintro m ⟨tt2,g2,d2⟩ ⟨e9,f2,a0,a4,a3,k,a5,hk,hall,rfl⟩
    dsimp only at e9 f2 a0 a4 a3 a5
    subst e9
    have hgx2:=(f2.get id (Nat.lt_of_lt_of_le hidl e1.nx)).trans hgx
    by_cases c5:(k:Int)<(L.length:Nat)
    ·have hkl:k<L.length:=by omega
     obtain ⟨q,hq⟩:∃q,L[k]? = some q:=⟨_,List.getElem?_eq_getElem hkl⟩
     obtain ⟨id2,off2,cc,cs2,oo,tx2,hweq,hgi2,hidl2,hle2,hx2,y0,y1,y2⟩:=Ps.at hw hq
     subst hweq
     have hgy:=(f2.get id2 hidl2).trans hgi2
     simp -dsimp (disch:=(repeat first | rw [nxn] | rw [nxp]);try omega) only [go_sem]
     refine syDraw.keepN 0 (fun _=>True) (by kernel_rfl) (by kernel_rfl) rfl ?_
     cases hlt:lessA q.1 p.1
     ·have:plcP L p.1=k:=plcP_eq hk hall fun e he=>by rw [hq] at he;cases he;exact hlt
      simp -dsimp (disch:=(repeat first | rw [nxn] | rw [nxp]);try omega) only [go_sem,lw,c5,a0,a3,a4,a5,hkl,hgy,y0,hil,hgx2,x0,ltSt,hlt]
      exact ⟨trivial,trivial,f2.more _ (by omega),trivial,trivial,trivial,by rw [this]⟩
     ·simp -dsimp (disch:=(repeat first | rw [nxn] | rw [nxp]);try omega) only [go_sem,lw,c5,a0,a3,a4,a5,hkl,hgy,y0,hil,hgx2,x0,ltSt,hlt]
      refine ⟨L.length-(k+1),by omega,trivial,f2.more _ (by omega),trivial,trivial,trivial,k+1,rfl,by omega,fun j e hj he=>?_,rfl⟩
      by_cases hjk:j=k
      ·subst hjk;rw [hq] at he;cases he;exact hlt
      ·exact hall j e (by omega) he
    ·have:k=L.length:=by omega
     subst this
     have:plcP L p.1=L.length:=plcP_eq (Nat.le_refl _) hall fun e he=>by
      have:=(List.getElem?_eq_some_iff.1 he).1
      omega
     simp -dsimp (disch:=(repeat first | rw [nxn] | rw [nxp]);try omega) only [go_sem]
     refine syDraw.keepN 0 (fun _=>True) (by kernel_rfl) (by kernel_rfl) rfl ?_
     simp -dsimp (disch:=(repeat first | rw [nxn] | rw [nxp]);try omega) only [go_sem,lw,c5,a0,a3,a4,a5,ow]
     exact ⟨trivial,trivial,f2.more _ (by omega),trivial,trivial,trivial,by rw [this]⟩
   ·simp -dsimp (disch:=(repeat first | rw [nxn] | rw [nxp]);try omega) only [go_sem,g0,g4,g3]
    exact ⟨trivial,Fr.refl _,trivial,trivial,trivial,0,rfl,Nat.zero_le _,fun j e hj=>absurd hj (Nat.not_lt_zero _),rfl⟩
   ·rintro ex ⟨tt2,g2,d2⟩ ⟨rfl,e9,f2,a0,a4,a3,a5⟩
    dsimp only at e9 f2 a0 a4 a3 a5
    subst e9
    have hw2:=hw.fr f2
    have fh2:=e1.trans f2
    have hpa:∀q,L[plcP L p.1]? = some q→lessA q.1 p.1=false:=fun q hq=>plcP_at hq
    generalize plcP L p.1=n at hpl hpd a5 hpa
    obtain ⟨vt,t1,t2,t3,t4⟩:=hw2.to hpl
    obtain ⟨vr,r1,r2,r3,r4⟩:=hw2.frm hpl
    -- the end of a round
    have fin:∀(gd:AH) (vf:AV) (D:KL (List Nat×Bool)),Fr g2 gd→Ps gd vf D→D.length≤L.length→lastD (l.take (i+1))=L.take n++p::D →
      ∃v3 g3 v4 g4 v5 g5,evAppend Tryz.prog (({ tr:=gd.tr,nx:=gd.nx+14 }:AH).put gd.nx (.cells [] true true)) #[22,22] (.sl gd.nx 0 0 3 (some 0)) vt=some (.val v3 g3)∧oneA v3=true ∧
       evAppend Tryz.prog (g3.put (gd.nx+9) (.cells [.str p.1,.str p.2.1,.bool p.2.2] true false)) #[22,22] v3 (.sl (gd.nx+9) 0 1 3 (some 1))=some (.val v4 g4)∧oneA v4=true ∧
       evAppend Tryz.prog g4 #[22,22] v4 vf=some (.val v5 g5)∧oneA v5=true∧Fr gd g3∧Fr gd g4∧Fr gd g5∧Ez 3 gd.nx g5 v5 ((lastD (l.take (i+1))).flatMap pc):=fun gd vf D fgd hvf hDl heq=>by
     have fX:Fr gd (({ tr:=gd.tr,nx:=gd.nx+14 }:AH).put gd.nx (.cells [] true true)):=((Fr.refl gd).more _ (by omega)).put _ (Nat.le_refl _)
     have hzX:Ez 3 gd.nx (({ tr:=gd.tr,nx:=gd.nx+14 }:AH).put gd.nx (.cells [] true true)) (.sl gd.nx 0 0 3 (some 0)) (([]:KL (List Nat×Bool)).flatMap pc):=.inr ⟨gd.nx,0,some 0,true,rfl,AH.get_put_eq rfl,(show gd.nx<gd.nx+14 by omega),Nat.le_refl _,rfl,.inr rfl,.inr ⟨rfl,rfl⟩⟩
     obtain ⟨v3,g3,ha3,f3,hz3,o3,s3,n3⟩:=appP2 (h0:=gd) hzX ((t2.fr fgd).fr fX) fX (by simp;omega)
     rw [List.nil_append] at hz3
     have n3':gd.nx+14≤g3.nx:=n3
     have hne:∀id o n z c,v3=.sl id o n z c→id≠gd.nx+9:=fun id o n z c hh=>by
      rcases s3 with s3 | ⟨id3,n3,s3,h3⟩
      ·rw [s3] at hh;cases hh;omega
      ·rw [s3] at hh;cases hh
       have h3':gd.nx+14≤id:=h3
       omega
     have f3p:Fr gd (g3.put (gd.nx+9) (.cells (pc p) true false)):=f3.put _ (by omega)
     obtain ⟨v4,g4,ha4,f4,hz4,o4,_⟩:=appP2 (h0:=gd) (ezPutNe (o:=.cells (pc p) true false) hz3 hne) (ps1 (p:=p) (AH.get_put_eq rfl) (show gd.nx+9<g3.nx by omega)) f3p (by simp;omega)
     obtain ⟨v5,g5,ha5,f5,hz5,o5,_⟩:=appP2 (h0:=gd) hz4 (hvf.fr f4) f4 (by simp;omega)
     refine ⟨v3,g3,v4,g4,v5,g5,ha3,o3,ha4,o4,ha5,o5,f3,f4,f5,?_⟩
     rw [heq]
     have:L.take n++p::D=L.take n++[p]++D:=by simp
     rw [this];exact hz5
    have hidg:id<g2.nx:=Nat.lt_of_lt_of_le hidl fh2.nx
    have hgx2:=(fh2.get id hidl).trans hgi
    have svp:=svP p.1 p.2.1 p.2.2
    have endr:∀(gd g5:AH) (v5:AV),Fr g2 gd→Fr gd g5→Ez 3 gd.nx g5 v5 ((lastD (l.take (i+1))).flatMap pc)→Fr h g5∧Ps g5 v5 (lastD (l.take (i+1))):=fun gd g5 v5 a b hz=>⟨(fh2.trans a).trans b,Ps.of hz⟩
    obtain ⟨lr,sr,or_⟩:=r2.ln
    have fm:∀k:Nat,Fr g2 { tr:=g2.tr,nx:=g2.nx+k }:=fun k=>(Fr.refl g2).more _ (by omega)
    by_cases hn:n<L.length
    ·obtain ⟨q,hq⟩:∃q,L[n]? = some q:=⟨_,List.getElem?_eq_getElem hn⟩
     have hdl:(L.drop n).length=L.length-n:=List.length_drop ..
     have c6:(0:Int)<(((L.drop n).length:Nat):Int):=by omega
     have hq0:(L.drop n)[0]? = some q:=by rw [List.getElem?_drop];exact hq
     obtain ⟨id2,off2,cc,cs2,oo,tx2,hreq,hgi2,hidl2,hle2,hx2,y0',y1,y2⟩:=Ps.at r2 hq0
     have y0:cs2[off2]? = some (.str q.1):=by simpa using y0'
     have hdl0:0<(L.drop n).length:=by omega
     by_cases hqk:q.1=p.1
     ·have hqd:decide (q.1=p.1)=true:=decide_eq_true hqk
      have heq:lastD (l.take (i+1))=L.take n++p::(L.drop n).drop 1:=by
       rw [hpd,hq,if_pos (by rw [←hqk];rfl),List.drop_drop]
      obtain ⟨vf,s1',s2,s3,s4⟩:=r2.frm (n:=1) hdl0
      have s1:∀h1,evSlice Tryz.prog h1 22 vr (some (.int .i64 1)) none none=some vf:=s1'
      obtain ⟨v3,g3',v4,g4',v5,g5,ha3,o3,ha4,o4,ha5,o5,f3,f4,f5,hz5⟩:=fin ({ tr:=g2.tr,nx:=g2.nx+15 }) vf _ (fm 15) (s2.fr (fm 15)) (by simp only [List.length_drop];omega) heq
      obtain ⟨k1,k2⟩:=endr _ _ _ (fm 15) f5 hz5
      subst hreq
      simp -dsimp (disch:=(repeat first | rw [nxn] | rw [nxp]);try omega) only [go_sem,a0,a3,a4,a5,r1,r3]
      refine syDraw.keepN 0 (fun _=>True) (by kernel_rfl) (by kernel_rfl) rfl ?_
      simp -dsimp (disch:=(repeat first | rw [nxn] | rw [nxp]);try omega) only [go_sem,a0,a3,a4,a5,lr,r3,c6,hdl0,hgi2,y0,hil,hgx2,x0,eqSt,hqd,s1,s3]
      refine syDraw.keep (fun j=>j<h.nx) (by kernel_rfl) (by kernel_rfl) ?_
      have b3:∀j,j<h.nx→g3'.get j=g2.get j:=fun j hj=>f3.get j (Nat.lt_of_lt_of_le hj (Nat.le_trans fh2.nx (Nat.le_add_right _ 15)))
      have b4:∀j,j<h.nx→g4'.get j=g3'.get j:=fun j hj=>(f4.get j (Nat.lt_of_lt_of_le hj (Nat.le_trans fh2.nx (Nat.le_add_right _ 15)))).trans (b3 j hj).symm
      have b5:∀j,j<h.nx→g5.get j=g4'.get j:=fun j hj=>(f5.get j (Nat.lt_of_lt_of_le hj (Nat.le_trans fh2.nx (Nat.le_add_right _ 15)))).trans ((b3 j hj).symm.trans (b4 j hj).symm)
      have g3x:g3'.get id=some (.cells cs o tx):=(b3 id hidl).trans hgx2
      rcases ezShape hz5 with rfl | ⟨ii,nn,ccc,rfl⟩
      all_goals
       simp -dsimp (disch:=(repeat first | rw [nxn] | rw [nxp]);try omega) only [go_sem,a0,a3,a4,a5,t1,t3,ha3,o3,hil,g3x,hgx2,hle,hx,pc,svp,hidl,ha4,o4,s3,ha5,o5,true_and,implies_true,svi,svb,svs]
       exact ⟨b3,b4,b5,l.length-(i+1),by omega,k1,i+1,_,rfl,rfl,k2,by omega,rfl⟩
     ·have hqd:decide (q.1=p.1)=false:=decide_eq_false hqk
      have heq:lastD (l.take (i+1))=L.take n++p::L.drop n:=by
       rw [hpd,hq,Option.map_some,if_neg (fun hh=>hqk (Option.some.inj hh))]
      obtain ⟨v3,g3',v4,g4',v5,g5,ha3,o3,ha4,o4,ha5,o5,f3,f4,f5,hz5⟩:=fin ({ tr:=g2.tr,nx:=g2.nx+15 }) vr _ (fm 15) (r2.fr (fm 15)) (by simp only [List.length_drop];omega) heq
      obtain ⟨k1,k2⟩:=endr _ _ _ (fm 15) f5 hz5
      subst hreq
      simp -dsimp (disch:=(repeat first | rw [nxn] | rw [nxp]);try omega) only [go_sem,a0,a3,a4,a5,r1,r3]
      refine syDraw.keepN 0 (fun _=>True) (by kernel_rfl) (by kernel_rfl) rfl ?_
      simp -dsimp (disch:=(repeat first | rw [nxn] | rw [nxp]);try omega) only [go_sem,a0,a3,a4,a5,lr,r3,c6,hdl0,hgi2,y0,hil,hgx2,x0,eqSt,hqd]
      refine syDraw.keep (fun j=>j<h.nx) (by kernel_rfl) (by kernel_rfl) ?_
      have b3:∀j,j<h.nx→g3'.get j=g2.get j:=fun j hj=>f3.get j (Nat.lt_of_lt_of_le hj (Nat.le_trans fh2.nx (Nat.le_add_right _ 15)))
      have b4:∀j,j<h.nx→g4'.get j=g3'.get j:=fun j hj=>(f4.get j (Nat.lt_of_lt_of_le hj (Nat.le_trans fh2.nx (Nat.le_add_right _ 15)))).trans (b3 j hj).symm
      have b5:∀j,j<h.nx→g5.get j=g4'.get j:=fun j hj=>(f5.get j (Nat.lt_of_lt_of_le hj (Nat.le_trans fh2.nx (Nat.le_add_right _ 15)))).trans ((b3 j hj).symm.trans (b4 j hj).symm)
      have g3x:g3'.get id=some (.cells cs o tx):=(b3 id hidl).trans hgx2
      rcases ezShape hz5 with rfl | ⟨ii,nn,ccc,rfl⟩
      all_goals
       simp -dsimp (disch:=(repeat first | rw [nxn] | rw [nxp]);try omega) only [go_sem,a0,a3,a4,a5,t1,t3,ha3,o3,hil,g3x,hgx2,hle,hx,pc,svp,hidl,ha4,o4,r3,ha5,o5,true_and,implies_true,svi,svb,svs]
       exact ⟨b3,b4,b5,l.length-(i+1),by omega,k1,i+1,_,rfl,rfl,k2,by omega,rfl⟩
    ·have hnl:n=L.length:=by omega
     have hd0:L.drop n=[]:=List.drop_of_length_le (by omega)
     have hdl0:(L.drop n).length=0:=by rw [hd0];rfl
     have lr0:∀g,evLen Tryz.prog g #[22] vr=some (.int .i64 0):=fun g=>by rw [lr g,hdl0];rfl
     have c6:¬(0:Int)<0:=by omega
     have heq:lastD (l.take (i+1))=L.take n++p::L.drop n:=by
      rw [hpd,if_neg]
      rw [List.getElem?_eq_none (by omega)]
      intro hh;cases hh
     obtain ⟨v3,g3',v4,g4',v5,g5,ha3,o3,ha4,o4,ha5,o5,f3,f4,f5,hz5⟩:=fin ({ tr:=g2.tr,nx:=g2.nx+15 }) vr _ (fm 15) (r2.fr (fm 15)) (by simp only [List.length_drop];omega) heq
     obtain ⟨k1,k2⟩:=endr _ _ _ (fm 15) f5 hz5
     simp -dsimp (disch:=(repeat first | rw [nxn] | rw [nxp]);try omega) only [go_sem,a0,a3,a4,a5,r1,r3]
     refine syDraw.keepN 0 (fun _=>True) (by kernel_rfl) (by kernel_rfl) rfl ?_
     simp -dsimp (disch:=(repeat first | rw [nxn] | rw [nxp]);try omega) only [go_sem,a0,a3,a4,a5,lr0,r3,c6]
     refine syDraw.keep (fun j=>j<h.nx) (by kernel_rfl) (by kernel_rfl) ?_
     have b3:∀j,j<h.nx→g3'.get j=g2.get j:=fun j hj=>f3.get j (Nat.lt_of_lt_of_le hj (Nat.le_trans fh2.nx (Nat.le_add_right _ 15)))
     have b4:∀j,j<h.nx→g4'.get j=g3'.get j:=fun j hj=>(f4.get j (Nat.lt_of_lt_of_le hj (Nat.le_trans fh2.nx (Nat.le_add_right _ 15)))).trans (b3 j hj).symm
     have b5:∀j,j<h.nx→g5.get j=g4'.get j:=fun j hj=>(f5.get j (Nat.lt_of_lt_of_le hj (Nat.le_trans fh2.nx (Nat.le_add_right _ 15)))).trans ((b3 j hj).symm.trans (b4 j hj).symm)
     have g3x:g3'.get id=some (.cells cs o tx):=(b3 id hidl).trans hgx2
     rcases ezShape hz5 with rfl | ⟨ii,nn,ccc,rfl⟩
     all_goals
      simp -dsimp (disch:=(repeat first | rw [nxn] | rw [nxp]);try omega) only [go_sem,a0,a3,a4,a5,t1,t3,ha3,o3,hil,g3x,hgx2,hle,hx,pc,svp,hidl,ha4,o4,r3,ha5,o5,true_and,implies_true,svi,svb,svs]
      exact ⟨b3,b4,b5,l.length-(i+1),by omega,k1,i+1,_,rfl,rfl,k2,by omega,rfl⟩
  ·have:i=l.length:=by omega
   subst this
   rw [List.take_length] at hw
   simp -dsimp (disch:=(repeat first | rw [nxn] | rw [nxp]);try omega) only [go_sem,lv,c4,g0,g4,g3]
   exact ⟨trivial,trivial,e1,w,rfl,hw⟩
 ·simp -dsimp (disch:=(repeat first | rw [nxn] | rw [nxp]);try omega) only [go_sem]
  exact ⟨trivial,Fr.refl _,trivial,0,.nilsl,rfl,rfl,.inl ⟨rfl,rfl⟩,Nat.zero_le _,rfl⟩
 ·rintro ex ⟨tt,g,d⟩ ⟨rfl,rfl,e1,w,g3,hw⟩
  dsimp only at e1 g3 hw
  have ow:=hw.ln.2.2
  simp -dsimp (disch:=(repeat first | rw [nxn] | rw [nxp]);try omega) only [go_sem,g3,ow]
  exact ⟨hw,e1⟩
end
theorem eyPutNe {n0:Nat} {h:AH} {v:AV} {l:List Nat} {j:Nat} {o:AO} (hb:Ey n0 h v l) (hj:∀id o n z c,v=.sl id o n z c→id≠j):Ey n0 (h.put j o) v l:=ezPutNe hb hj
theorem eyLt {n0:Nat} {h:AH} {v:AV} {l:List Nat} (hb:Ey n0 h v l) {id o n z:Nat} {c:Option Nat} (hv:v=.sl id o n z c):id<h.nx:=by
 rcases hb with ⟨h1,_⟩ | ⟨id',n',c',tx,h1,h2,h3,h4,h5⟩
 ·rw [h1] at hv;cases hv
 ·rw [h1] at hv;cases hv;exact h3
section
variable {S : Sums}
theorem bytePut {h0 g:AH} {w:AV} {l:List Nat} {b k q j:Nat} {bi:Int} (hbi:bi=(b:Nat)) (hb:Ey h0.nx g w l) (hf:Fr h0 g) (hl:l.length≤100000000) (hk:k<q) (hj:j<q) (hjk:j≠k) (ts:List (List Nat)) :
  ∃v3 g3,evAppend Tryz.prog (({ tr:=g.tr,nx:=g.nx+q }:AH).put (g.nx+k) (.cells [.int .u8 bi] true false)) #[87,87] w (.sl (g.nx+k) 0 1 1 (some 1))=some (.val v3 g3)∧oneA v3=true∧Fr h0 g3∧g.nx+q≤g3.nx ∧
   Ey h0.nx (g3.put (g.nx+j) (.cells (ts.map .str) true false)) v3 (l++[b])∧(∀id o n c,v3=.sl id o n 1 c→g.nx+j≠id):=by
 subst hbi
 have fX:Fr g (({ tr:=g.tr,nx:=g.nx+q }:AH).put (g.nx+k) (.cells [.int .u8 (b:Nat)] true false)):=((Fr.refl g).more _ (by omega)).put _ (by omega)
 have hx:Bs (({ tr:=g.tr,nx:=g.nx+q }:AH).put (g.nx+k) (.cells [.int .u8 (b:Nat)] true false)) (.sl (g.nx+k) 0 1 1 (some 1)) [b] :=
  .inr ⟨g.nx+k,0,some 1,_,true,false,rfl,AH.get_put_eq rfl,by show g.nx+k<g.nx+q;omega,Nat.le_refl _,fun k hk=>(by cases hk;exact Nat.le_refl _),rfl⟩
 have hlt:∀id o n z c,w=.sl id o n z c→id<g.nx:=fun id o n z c hh=>eyLt hb hh
 obtain ⟨v3,g3,ha,hf3,hz3,o3,z1,z2,z3⟩:=appY2 (h0:=h0) (hb.fr fX) hx (hf.trans fX) (by simp;omega)
 have z1':g.nx+q≤g3.nx:=z1
 have hne:∀id o n z c,v3=.sl id o n z c→id≠g.nx+j:=fun id o n z c hh=>by
  rcases z3 with rfl | ⟨i3,n3,rfl,h3⟩
  ·have:=hlt _ _ _ _ _ hh;omega
  ·cases hh
   have h3':g.nx+q≤id:=h3
   omega
 exact ⟨v3,g3,ha,o3,hf3,z1',eyPutNe hz3 hne,fun id o n c hh=>(hne _ _ _ _ _ hh).symm⟩
theorem recoDC (hS:Te S) {h:AH} {v:AV} {l:KL (List Nat×Bool)} (hv:Ps h v l) (hl:l.length≤4096) (hpl:∀p∈l,p.1.length<16384∧p.2.1.length<16384) (ht:(recE (lastD l)).length≤1048576) (hby:∀b∈recE (lastD l),b<256) :
  RnC Tryz.prog S 19 [v] h fun r h'=>r=.tup [.str (recP l).1,.int .i64 ((recP l).2:Nat)]∧Fr h h':=by
 refine RnC.enter' Tryz.f19 _ 87 [.tmp 2,.tmp 3] (hS.ne _ _ _ (by simp)) bd19 Tryz.func19 rfl rfl rfl ?_
 obtain ⟨lv,sv,ov⟩:=hv.ln
 rw [recP_eq]
 simp -dsimp (disch:=(repeat first | rw [nxn] | rw [nxp]);try omega) only [go_sem,ov]
 refine loopK_of (RnL.rounds (Q:=fun ex u=>u.d=[]∧u.h=h∧(ex=.exit 0∧u.t.get 0=some v∧l.any badA=false∨ex=.ret∧u.t.get 2=some (.str [])∧u.t.get 3=some (.int .i64 2)∧l.any badA=true))
  (fun m u=>u.d=[]∧u.h=h∧u.t.get 0=some v∧∃i:Nat,u.t.get 4=some (.int .i64 (i:Nat))∧i≤l.length∧(l.take i).any badA=false∧m=l.length-i) ?_ l.length ?_) ?_
 ·rintro m ⟨tt,g,d⟩ ⟨e9,e1,g0,i,g4,hi,hn,rfl⟩
  dsimp only at e9 e1 g0 g4
  subst e9 e1
  by_cases c4:(i:Int)<(l.length:Nat)
  ·have hil:i<l.length:=by omega
   obtain ⟨p,hp⟩:∃p,l[i]? = some p:=⟨_,List.getElem?_eq_getElem hil⟩
   obtain ⟨id,off,c,cs,o,tx,rfl,hgi,hidl,hle,hx,x0,x1,x2⟩:=Ps.at hv hp
   have ht:l.take (i+1)=l.take i++[p]:=by rw [List.take_add_one,hp];rfl
   cases hpk:badA p
   ·have hd:decide (p.1=[])=false:=hpk
    simp -dsimp (disch:=(repeat first | rw [nxn] | rw [nxp]);try omega) only [go_sem,lv,c4,g0,g4,hil,hgi,x0,eqSt,hd,b0e]
    exact ⟨l.length-(i+1),by omega,trivial,trivial,trivial,i+1,rfl,by omega,by rw [ht,List.any_append,hn];simp [hpk],rfl⟩
   ·have hd:decide (p.1=[])=true:=hpk
    simp -dsimp (disch:=(repeat first | rw [nxn] | rw [nxp]);try omega) only [go_sem,lv,c4,g0,g4,hil,hgi,x0,eqSt,hd,b0e]
    refine ⟨trivial,trivial,.inr ⟨trivial,trivial,trivial,?_⟩⟩
    rw [List.any_eq_true]
    exact ⟨p,List.mem_iff_getElem?.2 ⟨i,hp⟩,hpk⟩
  ·have:i=l.length:=by omega
   subst this
   rw [List.take_length] at hn
   simp -dsimp (disch:=(repeat first | rw [nxn] | rw [nxp]);try omega) only [go_sem,lv,c4,g0,g4,ov]
   exact ⟨trivial,trivial,.inl ⟨trivial,trivial,hn⟩⟩
 ·simp -dsimp (disch:=(repeat first | rw [nxn] | rw [nxp]);try omega) only [go_sem]
  exact ⟨trivial,trivial,trivial,0,rfl,Nat.zero_le _,rfl,rfl⟩
 ·rintro ex ⟨tt,g,d⟩ ⟨e9,e1,⟨rfl,g0,hn⟩ | ⟨rfl,g2,g3,hn⟩⟩
  ·dsimp only at e9 e1 g0
   subst e9 e1
   rw [hn,if_neg (by decide)]
   have c2:¬(4096:Int)<((l.length:Nat):Int):=by omega
   simp -dsimp (disch:=(repeat first | rw [nxn] | rw [nxp]);try omega) only [go_sem,g0,ov,lv,c2]
   refine loopK_of (RnL.rounds (Q:=fun ex u=>u.d=[]∧Fr g u.h∧(ex=.exit 2∧u.t.get 0=some v∧l.any badL=false∨ex=.ret∧u.t.get 2=some (.str [])∧u.t.get 3=some (.int .i64 3)∧l.any badL=true))
    (fun m u=>u.d=[]∧Fr g u.h∧u.t.get 0=some v∧∃i:Nat,u.t.get 5=some (.int .i64 (i:Nat))∧i≤l.length∧(l.take i).any badL=false∧m=l.length-i) ?_ l.length ?_) ?_
   ·rintro m ⟨tt,g',d⟩ ⟨e9,e1,g0,i,g5,hi,hn,rfl⟩
    dsimp only at e9 e1 g0 g5
    subst e9
    by_cases c4:(i:Int)<(l.length:Nat)
    ·have hil:i<l.length:=by omega
     obtain ⟨p,hp⟩:∃p,l[i]? = some p:=⟨_,List.getElem?_eq_getElem hil⟩
     obtain ⟨id,off,c,cs,o,tx,rfl,hgi,hidl,hle,hx,x0,x1,x2⟩:=Ps.at hv hp
     have hgx:=(e1.get id hidl).trans hgi
     have ht:l.take (i+1)=l.take i++[p]:=by rw [List.take_add_one,hp];rfl
     simp -dsimp (disch:=(repeat first | rw [nxn] | rw [nxp]);try omega) only [go_sem,lv,c4,g0,g5,hil,hgx,hle,hx]
     refine callK_of (fineC hS g' p) ?_
     rintro w1 g1 ⟨rfl,f1⟩
     cases hpk:badL p
     ·simp -dsimp (disch:=(repeat first | rw [nxn] | rw [nxp]);try omega) only [go_sem,g0,g5]
      exact ⟨l.length-(i+1),by omega,trivial,e1.trans f1,trivial,i+1,rfl,by omega,by rw [ht,List.any_append,hn];simp [hpk],rfl⟩
     ·simp -dsimp (disch:=(repeat first | rw [nxn] | rw [nxp]);try omega) only [go_sem,g0,g5,b0e]
      refine ⟨trivial,e1.trans f1,.inr ⟨trivial,trivial,trivial,?_⟩⟩
      rw [List.any_eq_true]
      exact ⟨p,List.mem_iff_getElem?.2 ⟨i,hp⟩,hpk⟩
    ·have:i=l.length:=by omega
     subst this
     rw [List.take_length] at hn
     simp -dsimp (disch:=(repeat first | rw [nxn] | rw [nxp]);try omega) only [go_sem,lv,c4,g0,g5,ov]
     exact ⟨trivial,e1,.inl ⟨trivial,trivial,hn⟩⟩
   ·simp -dsimp (disch:=(repeat first | rw [nxn] | rw [nxp]);try omega) only [go_sem,g0]
    exact ⟨trivial,Fr.refl _,trivial,0,rfl,Nat.zero_le _,rfl,rfl⟩
   ·rintro ex ⟨tt,g1,d⟩ ⟨e9,f1,⟨rfl,g0,hn⟩ | ⟨rfl,g2,g3,hn⟩⟩
    ·dsimp only at e9 f1 g0
     subst e9
     rw [hn,if_neg (by decide)]
     simp -dsimp (disch:=(repeat first | rw [nxn] | rw [nxp]);try omega) only [go_sem,g0,ov]
     refine callK_of (lastDC hS (hv.fr f1) (by omega)) ?_
     rintro w2 g2 ⟨hp2,f2⟩
     have hmp:∀p∈lastD l,p.1.length<16384∧p.2.1.length<16384:=fun p hp=>hpl p (last_mem hp)
     have hml:=last_len l
     generalize hmd:lastD l=m at hp2 hmp hml ht hby
     obtain ⟨lm,sm,om⟩:=hp2.ln
     have hpsh:=psShape hp2
     have e1:recE m=[1]++numE m.length++m.flatMap pairE:=by simp [recE]
     have cvm:=fun h=>cv64 h m.length (by omega)
     have hfr12:=f1.trans f2
     rcases hpsh with rfl | ⟨i5,o5,n5',c5,rfl⟩
     all_goals
      simp -dsimp (disch:=(repeat first | rw [nxn] | rw [nxp]);try omega) only [go_sem,om,lm,cvm]
      refine callK_of (numDC hS.toTw (n:=m.length) (h0:=g2) (l:=[1]) (ey1 g2 [1] (by simp)) (Fr.new _ _) (by simp) (by omega)) ?_
      rintro w4 g4 ⟨hb4,f4,_⟩
      have o4:=hb4.one
      rcases hb4.shape with rfl | ⟨i6,n6,c6,rfl⟩
      all_goals
       try simp -dsimp (disch:=(repeat first | rw [nxn] | rw [nxp]);try omega) only [go_sem,lm,om,o4]
       refine loopK_of (RnL.rounds (Q:=fun ex u=>ex=.exit 4∧u.d=[]∧Fr g2 u.h∧∃w,u.t.get 8=some w∧Bs u.h w (recE m))
        (fun k u=>u.d=[]∧Fr g2 u.h∧(∃w2',u.t.get 7=some w2'∧Ps g2 w2' m)∧∃(i:Nat) (w:AV),u.t.get 9=some (.int .i64 (i:Nat))∧u.t.get 8=some w∧Ey g2.nx u.h w ([1]++numE m.length++(m.take i).flatMap pairE)∧i≤m.length∧k=m.length-i) ?_ m.length ?_) ?_
       ·rintro k ⟨tt,g5,d⟩ ⟨e9,e5,⟨w2',g7,hp2'⟩,i,w,g9,g8,hb,hi,rfl⟩
        dsimp only at e9 e5 g7 g9 g8 hb
        subst e9
        obtain ⟨lm',sm',om'⟩:=hp2'.ln
        by_cases c4:(i:Int)<(m.length:Nat)
        ·have hil:i<m.length:=by omega
         obtain ⟨p,hp⟩:∃p,m[i]? = some p:=⟨_,List.getElem?_eq_getElem hil⟩
         have hpl':=hmp p (List.mem_iff_getElem?.2 ⟨i,hp⟩)
         obtain ⟨id,off,c,cs,o,tx,rfl,hgi,hidl,hle,hx,x0,x1,x2⟩:=Ps.at hp2' hp
         have hgx:=(e5.get id hidl).trans hgi
         have ow:=hb.one
         have tot:([1]++numE m.length++(m.take (i+1)).flatMap pairE).length≤1048576:=by
          rw [e1] at ht
          have:=flat_le pairE m (i+1)
          simp only [List.length_append] at ht ⊢
          omega
         have etk:=flat_take pairE hp
         rw [etk] at tot
         have tot2:=tot
         simp only [List.length_append] at tot2
         have topl:([1]++numE m.length++(m.take i).flatMap pairE).length≤1048576:=by
          simp only [List.length_append];omega
         have hidg:id<g5.nx:=Nat.lt_of_lt_of_le hidl e5.nx
         cases hgn:p.2.2
         ·have epp:pairE p=[1]++([p.1,p.2.1].flatMap pieceE):=by unfold pairE;rw [if_neg (by rw [hgn];decide)];simp
          rw [hgn] at x2
          obtain ⟨v3,g3',ha3,o3,f3,n3,hb3,hne3⟩:=bytePut (b:=1) (k:=1) (q:=16) (j:=13) (bi:=1) rfl hb e5 (by omega) (by decide) (by decide) (by decide) [p.1,p.2.1]
          have k3:∀j,j<g2.nx→g3'.get j=g5.get j:=fun j hj=>(f3.get j hj).trans (e5.get j hj).symm
          have g3x:g3'.get id=some (.cells cs o tx):=(f3.get id hidl).trans hgi
          simp -dsimp (disch:=(repeat first | rw [nxn] | rw [nxp]);try omega) only [go_sem,lm',c4,g7,g9,g8,hil,hgx,x2,ow]
          refine syDraw.keep (fun j=>j<g2.nx) (by kernel_rfl) (by kernel_rfl) ?_
          simp -dsimp (disch:=(repeat first | rw [nxn] | rw [nxp]);try omega) only [go_sem,lm',c4,g7,g9,g8,hil,hgx,x0,x1,g3x,ow,ha3,o3,hidl,true_and,implies_true,svi,svb,svs]
          refine ⟨k3,?_⟩
          refine callK_of (piesDC hS.toTw (ts:=[p.1,p.2.1]) hb3 (f3.put _ (by have:=e5.nx;omega)) (AH.get_put_eq rfl) (by show g5.nx+13<g3'.nx;omega) hne3 rfl (by simp) (Nat.le_trans (by rw [List.length_append];exact Nat.add_le_add topl (Nat.le_refl 1)) (by decide)) (fun s hs=>by simp at hs;rcases hs with rfl | rfl;exact hpl'.1;exact hpl'.2)) ?_
          rintro w8 g8' ⟨hb8,f8⟩
          have o8:=hb8.one
          have k8:∀j,j<g2.nx→g8'.get j=g3'.get j:=fun j hj=>(f8.get j hj).trans (f3.get j hj).symm
          refine ⟨k8,?_⟩
          have e8:([1]++numE m.length++(m.take i).flatMap pairE)++[1]++([p.1,p.2.1].flatMap pieceE)=[1]++numE m.length++((m.take i).flatMap pairE++pairE p):=by rw [epp];simp
          rw [e8] at hb8
          obtain ⟨n8,hn8,l8⟩:∃n8:Nat,n8≤1048576∧∀g,evLen Tryz.prog g #[87] w8=some (.int .i64 (n8:Nat)):=⟨_,tot,bsLn hb8.bs⟩
          have c9:¬(1048576:Int)<((n8:Nat):Int):=by omega
          rw [←etk] at hb8
          rcases hb8.shape with rfl | ⟨i9,n9,c9',rfl⟩
          all_goals
           simp -dsimp (disch:=(repeat first | rw [nxn] | rw [nxp]);try omega) only [go_sem,l8,o8,c9,g7,g9]
           exact ⟨m.length-(i+1),by omega,trivial,f8,⟨_,rfl,hp2'⟩,i+1,_,rfl,rfl,hb8,by omega,rfl⟩
         ·have epp:pairE p=[0]++([p.1].flatMap pieceE):=by unfold pairE;rw [if_pos hgn];simp
          rw [hgn] at x2
          obtain ⟨v3,g3',ha3,o3,f3,n3,hb3,hne3⟩:=bytePut (b:=0) (k:=1) (q:=11) (j:=8) (bi:=0) rfl hb e5 (by omega) (by decide) (by decide) (by decide) [p.1]
          have k3:∀j,j<g2.nx→g3'.get j=g5.get j:=fun j hj=>(f3.get j hj).trans (e5.get j hj).symm
          have g3x:g3'.get id=some (.cells cs o tx):=(f3.get id hidl).trans hgi
          simp -dsimp (disch:=(repeat first | rw [nxn] | rw [nxp]);try omega) only [go_sem,lm',c4,g7,g9,g8,hil,hgx,x2,ow]
          refine syDraw.keep (fun j=>j<g2.nx) (by kernel_rfl) (by kernel_rfl) ?_
          simp -dsimp (disch:=(repeat first | rw [nxn] | rw [nxp]);try omega) only [go_sem,lm',c4,g7,g9,g8,hil,hgx,x0,x1,g3x,ow,ha3,o3,hidl,true_and,implies_true,svi,svb,svs]
          refine ⟨k3,?_⟩
          refine callK_of (piesDC hS.toTw (ts:=[p.1]) hb3 (f3.put _ (by have:=e5.nx;omega)) (AH.get_put_eq rfl) (by show g5.nx+8<g3'.nx;omega) hne3 rfl (by simp) (Nat.le_trans (by rw [List.length_append];exact Nat.add_le_add topl (Nat.le_refl 1)) (by decide)) (fun s hs=>by simp at hs;rw [hs];exact hpl'.1)) ?_
          rintro w8 g8' ⟨hb8,f8⟩
          have o8:=hb8.one
          have k8:∀j,j<g2.nx→g8'.get j=g3'.get j:=fun j hj=>(f8.get j hj).trans (f3.get j hj).symm
          refine ⟨k8,?_⟩
          have e8:([1]++numE m.length++(m.take i).flatMap pairE)++[0]++([p.1].flatMap pieceE)=[1]++numE m.length++((m.take i).flatMap pairE++pairE p):=by rw [epp];simp
          rw [e8] at hb8
          obtain ⟨n8,hn8,l8⟩:∃n8:Nat,n8≤1048576∧∀g,evLen Tryz.prog g #[87] w8=some (.int .i64 (n8:Nat)):=⟨_,tot,bsLn hb8.bs⟩
          have c9:¬(1048576:Int)<((n8:Nat):Int):=by omega
          rw [←etk] at hb8
          rcases hb8.shape with rfl | ⟨i9,n9,c9',rfl⟩
          all_goals
           simp -dsimp (disch:=(repeat first | rw [nxn] | rw [nxp]);try omega) only [go_sem,l8,o8,c9,g7,g9]
           exact ⟨m.length-(i+1),by omega,trivial,f8,⟨_,rfl,hp2'⟩,i+1,_,rfl,rfl,hb8,by omega,rfl⟩
        ·have:i=m.length:=by omega
         subst this
         rw [List.take_length] at hb
         simp -dsimp (disch:=(repeat first | rw [nxn] | rw [nxp]);try omega) only [go_sem,lm',c4,g7,g9,g8,om']
         exact ⟨trivial,trivial,e5,w,rfl,by rw [e1];exact hb.bs⟩
       ·simp -dsimp (disch:=(repeat first | rw [nxn] | rw [nxp]);try omega) only [go_sem]
        exact ⟨trivial,f4,⟨_,rfl,hp2⟩,0,_,rfl,rfl,by simpa using hb4,Nat.zero_le _,rfl⟩
       ·rintro ex ⟨tt,g5,d⟩ ⟨rfl,rfl,e5,w,g8,hb⟩
        dsimp only at e5 g8 hb
        have tx:=hb.text (d:=9) Tryz.underlying87 Tryz.underlying5 Tryz.underlying9 hby
        simp -dsimp (disch:=(repeat first | rw [nxn] | rw [nxp]);try omega) only [go_sem,g8,tx]
        exact ⟨by first | trivial | rfl,hfr12.trans e5⟩
    ·dsimp only at e9 f1 g2 g3
     subst e9
     rw [hn,if_pos rfl]
     simp -dsimp (disch:=(repeat first | rw [nxn] | rw [nxp]);try omega) only [go_sem,g2,g3]
     exact ⟨by first | trivial | rfl,f1⟩
  ·dsimp only at e9 e1 g2 g3
   subst e9 e1
   rw [hn,if_pos rfl]
   simp -dsimp (disch:=(repeat first | rw [nxn] | rw [nxp]);try omega) only [go_sem,g2,g3]
   exact ⟨by first | trivial | rfl,Fr.refl _⟩
end
end Go.Proofs.YtaooopaemphfjaaGreatDoor.tbl
end