/- Texts joined: SPc, SOa, SOb. -/
import Derived.Test.YtaooopaemphfjaaGreatDoorJ2
import Derived.Test.YtaooopaemphfjaaGreatDoorAb6
import Derived.ChangeShapes
import Derived.Test.YtaooopaemphfjaaGreatDoorAb7
import Derived.Test.YtaooopaemphfjaaGreatDoorAb8
import Derived.Test.YtaooopaemphfjaaGreatDoorH2

section
namespace Go.Proofs.YtaooopaemphfjaaGreatDoor.tbl
open Go Go.Abs Go.Abs.Rec Go.Proofs Go.ChangeShapes Go.RowKit
set_option maxRecDepth 100000
set_option linter.unusedVariables false
set_option linter.unusedSimpArgs false
theorem cStr:Tryz.prog.cellsOf 9=1:=by kernel_rfl
theorem cBool:Tryz.prog.cellsOf 4=1:=by kernel_rfl
theorem cPair:Tryz.prog.cellsOf 58=3:=by kernel_rfl
theorem byL_of (s:ByteArray):byL (bytesOf s):=by
 intro b hb
 unfold bytesOf at hb
 obtain ⟨x,_,rfl⟩:=List.mem_map.1 hb
 exact x.toNat_lt
theorem ty_pair {h:AH} {avs:List AV} (hx:Ty Tryz.prog h 58 avs):∃p:Pr,avs=pc p∧byL p.1∧byL p.2.1:=by
 obtain ⟨hl,hf⟩:=hx.struct_inv Tryz.underlying58
 have hl3:avs.length=3:=hl.trans cPair
 match avs,hl3 with
 | [a0,a1,a2],_ =>
  have f0:=hf _ (List.mem_cons_self ..)
  have f1:=hf _ (List.mem_cons_of_mem _ (List.mem_cons_self ..))
  have f2:=hf _ (List.mem_cons_of_mem _ (List.mem_cons_of_mem _ (List.mem_cons_self ..)))
  simp only [cStr,cBool,List.drop_zero,List.drop_succ_cons,List.take_succ_cons,List.take_zero] at f0 f1 f2
  obtain ⟨k,e0,_⟩:=f0.str_inv Tryz.underlying9
  obtain ⟨q,e1,_⟩:=f1.str_inv Tryz.underlying9
  obtain ⟨b,e2⟩:=f2.bool_inv Tryz.underlying4
  cases e0;cases e1;cases e2
  exact ⟨(bytesOf k,(bytesOf q,b)),rfl,byL_of k,byL_of q⟩
theorem flat_range {cs:List AV} (F:Nat→Pr):∀n:Nat,n*3≤cs.length→(∀i,i<n→(cs.drop (i*3)).take 3=pc (F i))→cs.take (n*3)=((List.range n).map F).flatMap pc
 | 0,_,_=>by simp
 | n+1,hn,h=>by
  have ih:=flat_range F n (by omega) fun i hi=>h i (by omega)
  have e:(n+1)*3=n*3+3:=by omega
  rw [e,List.take_add,ih,h n (Nat.lt_succ_self n),List.range_succ,List.map_append,List.flatMap_append]
  simp
theorem ty_pairs {h:AH} {avs:List AV} (hx:Ty Tryz.prog h 22 avs) (hlt:∀id o,h.get id=some o→id<h.nx):∃v L,avs=[v]∧Ps h v L∧∀p∈L,byL p.1∧byL p.2.1:=by
 rcases hx.slice_inv Tryz.underlying22 with rfl | ⟨id,len,cs,rfl,hg,hl,hcs,hel⟩
 ·exact ⟨_,[],rfl,.inl ⟨rfl,rfl⟩,fun p hp=>by cases hp⟩
 ·rw [cPair] at hcs hel ⊢
  have key:∀i,∃p:Pr,i<len→(cs.drop (i*3)).take 3=pc p∧byL p.1∧byL p.2.1:=fun i=>by
   by_cases hi:i<len
   ·obtain ⟨p,h1,h2⟩:=ty_pair (hel i hi)
    exact ⟨p,fun _=>⟨h1,h2⟩⟩
   ·exact ⟨([],([],false)),fun hh=>absurd hh hi⟩
  obtain ⟨F,hF⟩:=Classical.axiomOfChoice key
  have hm:((List.range len).map F).length=len:=by simp
  refine ⟨_,(List.range len).map F,rfl,.inr ⟨id,0,none,cs,false,false,by rw [hm],hg,hlt _ _ hg,fun k hk=>(by cases hk),by rw [hm];omega,?_⟩,fun p hp=>?_⟩
  ·rw [hm,List.drop_zero]
   exact flat_range F len (by omega) fun i hi=>(hF i hi).1
  ·obtain ⟨i,hi,rfl⟩:=List.mem_map.1 hp
   exact (hF i (List.mem_range.1 hi)).2
section
variable {H : Type} {enc : TypeId × Value → H} {P : Program} {w : World} {base : Nat} {spare : Nat → Bool} {held : Bool}
theorem trodAll_five {t0 t1 t2 t3 t4:TypeId} {args:Array Value} {ds:List (DataW H)} {ps:List MemPlace} (h:DataW.TrodAll enc P w base spare held [t0,t1,t2,t3,t4] args.toList ds ps) :
  ∃v0 v1 v2 v3 v4 d0 d1 d2 d3 d4 p0 p1 p2 p3 p4,args=#[v0,v1,v2,v3,v4]∧ds=[d0,d1,d2,d3,d4]∧ps=p0++(p1++(p2++(p3++p4)))∧DataW.Trod enc P w base spare held t0 v0 d0 p0∧DataW.Trod enc P w base spare held t1 v1 d1 p1∧DataW.Trod enc P w base spare held t2 v2 d2 p2∧DataW.Trod enc P w base spare held t3 v3 d3 p3∧DataW.Trod enc P w base spare held t4 v4 d4 p4:=by
 obtain ⟨v0,vs,d0,ds',p0,q,hargs,rfl,rfl,hd0,hr0⟩:=trodAll_cons h
 obtain ⟨v1,vs1,d1,ds1,p1,q1,rfl,rfl,rfl,hd1,hr1⟩:=trodAll_cons hr0
 obtain ⟨v2,vs2,d2,ds2,p2,q2,rfl,rfl,rfl,hd2,hr2⟩:=trodAll_cons hr1
 obtain ⟨v3,vs3,d3,ds3,p3,q3,rfl,rfl,rfl,hd3,hr3⟩:=trodAll_cons hr2
 obtain ⟨v4,vs4,d4,ds4,p4,q4,rfl,rfl,rfl,hd4,hr4⟩:=trodAll_cons hr3
 obtain ⟨rfl,rfl,rfl⟩:=trodAll_nil hr4
 exact ⟨v0,v1,v2,v3,v4,d0,d1,d2,d3,d4,p0,p1,p2,p3,p4,by cases args;simp_all,rfl,by simp,hd0,hd1,hd2,hd3,hd4⟩
theorem trodAll_mk5 {t0 t1 t2 t3 t4:TypeId} {v0 v1 v2 v3 v4:Value} {d0 d1 d2 d3 d4:DataW H} {p0 p1 p2 p3 p4:List MemPlace} (h0:DataW.Trod enc P w base spare held t0 v0 d0 p0) (h1:DataW.Trod enc P w base spare held t1 v1 d1 p1) (h2:DataW.Trod enc P w base spare held t2 v2 d2 p2) (h3:DataW.Trod enc P w base spare held t3 v3 d3 p3) (h4:DataW.Trod enc P w base spare held t4 v4 d4 p4) :
  DataW.TrodAll enc P w base spare held [t0,t1,t2,t3,t4] [v0,v1,v2,v3,v4] [d0,d1,d2,d3,d4] (p0++(p1++(p2++(p3++p4)))):=⟨p0,_,h0,⟨p1,_,h1,trodAll_mk3 h2 h3 h4,rfl⟩,rfl⟩
end
end Go.Proofs.YtaooopaemphfjaaGreatDoor.tbl
end

section
namespace Go.Proofs.YtaooopaemphfjaaGreatDoor.tbl
open Go Go.Abs Go.Abs.Rec Go.Abs.Wal Go.Proofs Go.ChangeShapes Go.RowKit
set_option maxRecDepth 100000
set_option linter.unusedVariables false
set_option linter.unusedSimpArgs false
def Qs (h:AH) (v:AV) (Ls:List (KL (List Nat×Bool))):Prop :=
 (v=.nilsl∧Ls=[])∨∃id cs,v=.sl id 0 Ls.length 1 none∧h.get id=some (.cells cs false false)∧id<h.nx∧∀(i:Nat) (l:KL (List Nat×Bool)),Ls[i]? = some l→∃w,cs[i]? = some w∧Ps h w l
theorem Qs.fr {h h':AH} {v:AV} {Ls:List (KL (List Nat×Bool))} (hv:Qs h v Ls) (f:Fr h h'):Qs h' v Ls:=by
 rcases hv with h1 | ⟨id,cs,h1,h2,h3,h4⟩
 ·exact .inl h1
 ·exact .inr ⟨id,cs,h1,(f.get id h3).trans h2,Nat.lt_of_lt_of_le h3 f.nx,fun i l hi=>let ⟨w,h5,h6⟩:=h4 i l hi;⟨w,h5,h6.fr f⟩⟩
theorem Qs.ln {h:AH} {v:AV} {Ls:List (KL (List Nat×Bool))} (hv:Qs h v Ls):(∀g,evLen Tryz.prog g #[43] v=some (.int .i64 (Ls.length:Nat)))∧oneA v=true:=by
 rcases hv with ⟨rfl,rfl⟩ | ⟨id,cs,rfl,_⟩
 ·exact ⟨fun g=>by simp [evLen,Tryz.underlying43],rfl⟩
 ·exact ⟨fun g=>by simp [evLen,Tryz.underlying43],rfl⟩
theorem Qs.at {h:AH} {v:AV} {Ls:List (KL (List Nat×Bool))} {i:Nat} {l:KL (List Nat×Bool)} (hv:Qs h v Ls) (hi:Ls[i]? = some l):∃id cs w,v=.sl id 0 Ls.length 1 none∧h.get id=some (.cells cs false false)∧cs[i]? = some w∧Ps h w l:=by
 rcases hv with ⟨_,rfl⟩ | ⟨id,cs,h1,h2,h3,h4⟩
 ·simp at hi
 ·obtain ⟨w,h5,h6⟩:=h4 i l hi
  exact ⟨id,cs,w,h1,h2,h5,h6⟩
theorem cPairs:Tryz.prog.cellsOf 22=1:=by kernel_rfl
theorem ty_pairss {h:AH} {avs:List AV} (hx:Ty Tryz.prog h 43 avs) (hlt:∀id o,h.get id=some o→id<h.nx):∃v Ls,avs=[v]∧Qs h v Ls∧∀l∈Ls,∀p∈l,byL p.1∧byL p.2.1:=by
 rcases hx.slice_inv Tryz.underlying43 with rfl | ⟨id,len,cs,rfl,hg,hl,hcs,hel⟩
 ·exact ⟨_,[],rfl,.inl ⟨rfl,rfl⟩,fun p hp=>by cases hp⟩
 ·rw [cPairs] at hcs hel ⊢
  have key:∀i,∃q:AV×KL (List Nat×Bool),i<len→(cs.drop (i*1)).take 1=[q.1]∧Ps h q.1 q.2∧∀p∈q.2,byL p.1∧byL p.2.1:=fun i=>by
   by_cases hi:i<len
   ·obtain ⟨w,l,h1,h2,h3⟩:=ty_pairs (hel i hi) hlt
    exact ⟨(w,l),fun _=>⟨h1,h2,h3⟩⟩
   ·exact ⟨(.nilsl,[]),fun hh=>absurd hh hi⟩
  obtain ⟨F,hF⟩:=Classical.axiomOfChoice key
  have hm:((List.range len).map fun i=>(F i).2).length=len:=by simp
  refine ⟨_,(List.range len).map fun i=>(F i).2,rfl,.inr ⟨id,cs,by rw [hm],hg,hlt _ _ hg,fun i l hi=>?_⟩,fun l hl=>?_⟩
  ·have hil:i<len:=by have:=(List.getElem?_eq_some_iff.1 hi).1;rwa [hm] at this
   have e:((List.range len).map fun i=>(F i).2)[i]? = some (F i).2:=by simp [hil]
   rw [e] at hi
   cases hi
   obtain ⟨h1,h2,_⟩:=hF i hil
   refine ⟨(F i).1,?_,h2⟩
   have:((cs.drop (i*1)).take 1)[0]? = some (F i).1:=by rw [h1];rfl
   simpa using this
  ·obtain ⟨i,hi,rfl⟩:=List.mem_map.1 hl
   exact (hF i (List.mem_range.1 hi)).2.2
theorem fit_all {M:KL (List Nat)} {n w:Nat} (h:Sm M n w) (hr:riseP M) (hn:n≤1000) (hw:w≤5000):Fit (allE M):=by
 obtain ⟨h1,h2,h3,h4⟩:=h.all (by omega) (by omega)
 have hl:=h.len
 have hread:=read_all (m:=M) (by omega) h1
 refine ⟨by omega,h4,fun l hl=>(by rw [hread] at hl;cases hl),fun l hl=>?_⟩
 rw [hread] at hl
 cases hl
 rw [ofP_rise hr]
 refine ⟨by rw [List.length_map];omega,fun p hp=>?_,h1,by omega,h4⟩
 obtain ⟨q,hq,rfl⟩:=List.mem_map.1 hp
 exact h1 q hq
theorem tel_all {M:KL (List Nat)} {n w:Nat} (h:Sm M n w) (hr:riseP M) (hn:n≤1000) (hw:w≤5000):telsX [] [allE M]=(M,0):=by
 obtain ⟨h1,h2,h3,h4⟩:=h.all (by omega) (by omega)
 have hl:=h.len
 have ht:=tell_all hr (by omega) h1 (fun p hp=>(h.ok p hp).1) []
 rw [telsX_cons ht]
 rfl
theorem it_all {M:KL (List Nat)} {n w:Nat} (h:Sm M n w) (hr:riseP M) (hn:n≤1000) (hw:w≤5000) (i:Nat):(itX [] ([allE M].take i)).length≤50000:=by
 obtain ⟨h1,h2,h3,h4⟩:=h.all (by omega) (by omega)
 have hl:=h.len
 have ht:=tell_all hr (by omega) h1 (fun p hp=>(h.ok p hp).1) []
 cases i with
 | zero=>exact Nat.zero_le _
 | succ i =>
  have e:[allE M].take (i+1)=[allE M]:=by simp
  rw [e]
  show ((tellP [] (allE M)).1).length≤_
  rw [ht]
  show M.length≤_
  omega
theorem gd_nod {t:Tp} {n w:Nat} (h:Sm (ino t) n w) (hn:n≤500) (hw:w≤2500):Gd (pf (nodT t))∧(recP (pf (nodT t))).2=0:=by
 have hm:∀p∈pf (nodT t),∃q∈ino t,p=(q.1,(q.2,false)):=fun p hp=>by
  obtain ⟨q,hq,rfl⟩:=List.mem_map.1 hp
  exact ⟨q,nod_mem.1 hq,rfl⟩
 have hwt:wtf lenP (pf (nodT t))=wtf lenK (ino t):=by
  have e:wtf lenP (pf (nodT t))=wtf lenK (nodT t):=by
   unfold pf
   generalize nodT t=M
   induction M with
   | nil=>rfl
   | cons e r ih =>
    show e.1.length+e.2.length+wtf lenP (r.map fun e=>(e.1,(e.2,false)))=e.1.length+e.2.length+wtf lenK r
    rw [ih]
  rw [e,wtf_nod]
 have hl:(pf (nodT t)).length=(ino t).length:=by
  unfold pf
  rw [List.length_map,nod_len,Tp.size_eq]
 refine ⟨⟨by rw [hl];have:=h.len;omega,by rw [hwt];have:=h.wt;omega,fun p hp=>?_⟩,?_⟩
 ·obtain ⟨q,hq,rfl⟩:=hm p hp
  exact (h.ok q hq).2
 ·rw [rec_ok fun p hp=>by
   obtain ⟨q,hq,rfl⟩:=hm p hp
   obtain ⟨⟨a,b,c⟩,_⟩:=h.ok q hq
   exact ⟨a,b,.inr c⟩]
theorem dones_sm:∀ {bs:List (KL (List Nat×Bool))} {L:KL (List Nat)} {n w:Nat},Sm L n w→(∀b∈bs,(b.length≤60∧wtf lenP b≤300∧∀p∈b,byL p.1∧byL p.2.1)∧(recP b).2=0)→Sm (dones L bs) (n+60*bs.length) (w+300*bs.length)
 | [],L,n,w,h,_=>h
 | b::r,L,n,w,h,hb=>by
  obtain ⟨⟨h1,h2,h3⟩,h4⟩:=hb b (by simp)
  have hd:=h.done (m:=lastD b) fun p hp=>⟨rec_no h4 p (last_mem hp),h3 p (last_mem hp)⟩
  have hl:=last_len b
  have hw:=wtf_last lenP b
  have ih:=dones_sm (bs:=r) hd fun x hx=>hb x (by simp [hx])
  have e:dones L (b::r)=dones (doneP L (lastD b)) r:=rfl
  rw [e,List.length_cons]
  exact ⟨by have:=ih.len;omega,by have:=ih.wt;omega,ih.ok⟩
theorem dones_app (L:KL (List Nat)) (a b:List (KL (List Nat×Bool))):dones L (a++b)=dones (dones L a) b:=List.foldl_append ..
end Go.Proofs.YtaooopaemphfjaaGreatDoor.tbl
end

section
namespace Go.Proofs.YtaooopaemphfjaaGreatDoor.tbl
open Go Go.Abs Go.Abs.Rec Go.Abs.Wal Go.Proofs Go.Proofs.YtaooopaemphfjaaGreatDoor.tre
set_option maxRecDepth 100000
set_option linter.unusedVariables false
set_option linter.unusedSimpArgs false
theorem eqIn (h:AH) (t:TypeId) (n:Nat):binA Tryz.prog h .eql t (.int .i64 (n:Nat)) (.int .i64 (n:Nat))=some (.bool true):=by
 rw [binA_eql];simp
def Zq (h:AH) (Q L n:Nat):Prop:=∃tv g p path l,h.get Q=some (.cells [tv,.ptr L 0,g] true false)∧Lo h L p path l∧Q<h.nx∧L<h.nx∧l.size=n
theorem Zq.fr {h h':AH} {Q L n:Nat} (hz:Zq h Q L n) (f:Fr h h'):Zq h' Q L n:=by
 obtain ⟨tv,g,p,path,l,h1,h2,h3,h4,h5⟩:=hz
 exact ⟨tv,g,p,path,l,(f.get Q h3).trans h1,(f.get L h4).trans h2,Nat.lt_of_lt_of_le h3 f.nx,Nat.lt_of_lt_of_le h4 f.nx,h5⟩
theorem Zq.gr {C C':Nat→Nat} {h h':AH} {Q L n:Nat} (hz:Zq h Q L n) (gr:Go.Proofs.YtaooopaemphfjaaGreatDoor.tre.Gr C h C' h') (hq:C Q=0) (hl:C L=0):Zq h' Q L n:=by
 obtain ⟨tv,g,p,path,l,h1,h2,h3,h4,h5⟩:=hz
 exact ⟨tv,g,p,path,l,(gr.get Q h3 hq).1.trans h1,(gr.get L h4 hl).1.trans h2,Nat.lt_of_lt_of_le h3 gr.nx,Nat.lt_of_lt_of_le h4 gr.nx,h5⟩
theorem SA.zq {C h p L Q path gr l T tv} (hs:SA C h p L Q path gr l T tv):Zq h Q L l.size:=⟨tv,_,p,path,l,hs.qc,hs.lo,hs.Qn,hs.Ln,rfl⟩
section
variable {S : Sums}
set_option maxHeartbeats 4000000 in
theorem zC (hS:Sw S) {h:AH} {Q L n:Nat} (hz:Zq h Q L n):RnC Tryz.prog S 24 [.ptr Q 0] h fun r h'=>r=.int .i64 (n:Nat)∧h'=h:=by
 obtain ⟨tv,g,p,path,l,q,h2,h3,h4,rfl⟩:=hz
 refine RnC.enter' Tryz.f24 _ 11 [.tmp 2] (hS.nb _ _ _ (by simp)) bd24 Tryz.func24 rfl rfl rfl ?_
 simp (maxSteps:=1000000) -dsimp (disch:=(repeat first | rw [nxn] | rw [nxp]);try omega) only [go_sem]
 refine callK_of (srightC hS q) ?_
 rintro r g1 ⟨rfl,rfl⟩
 simp (maxSteps:=1000000) -dsimp (disch:=(repeat first | rw [nxn] | rw [nxp]);try omega) only [go_sem,q]
 refine callK_of (lsizeC hS.wl h2) ?_
 rintro r g2 ⟨rfl,rfl⟩
 try simp (maxSteps:=1000000) -dsimp (disch:=(repeat first | rw [nxn] | rw [nxp]);try omega) only [go_sem]
 exact ⟨by first | trivial | rfl,by first | trivial | rfl⟩
theorem order2 (hS:Sw S) {h0 h:AH} {C D:Nat→Nat} {p L Q gr:Nat} {R:Int} {path:Pth} {c st n w:Nat} {a:List (List Nat)} {x:List Nat} {Lk:KL (List Nat)} {tv:AV} {t:Tp} (d:D2 h0 h C D) (hs:SA C h p L Q path gr (Wx R path c st a x Lk).l (Wx R path c st a x Lk).T tv) (hp:checkS path=0) (hc:c≤100000) (hpq:¬path=tmpS++path)
  (hR:(((frs a).length+10000:Nat):Int)≤R) (htv:TpA (fun j=>C j+D j) h tv t) (hit:ino t=Lk) (hsm:Sm Lk n w) (hn:n≤1000) (hw:w≤5000) :
  RnC Tryz.prog S 23 [.ptr Q 0] h fun r h'=>r=.int .i64 0∧∃C',SA C' h' p L Q path gr ⟨0,(frs [allE Lk]).length,1⟩ (Wu R path (c+1+1+1) ⟨frs a,x,st⟩ (frs [allE Lk]) (c+1+1)) tv∧D2 h0 h' C' D∧Go.Proofs.YtaooopaemphfjaaGreatDoor.tre.Gr C h C' h'∧TpA (fun j=>C' j+D j) h' tv t:=by
 obtain ⟨h1,h2,h3,h4⟩:=hsm.all (by omega) (by omega)
 have hl:=hsm.len
 have ho:=orderC hS (s:=Wx R path c st a x Lk) (J:=fun j=>C j+D j) hs hp (n:=1) (c:=c) wt_bm (by decide) (by omega) htv hit (by rw [Tp.size_eq,hit];omega) ⟨h1,by show (allE Lk).length≤_;omega,h4⟩
 rw [wx_ord hsm (by omega) (by omega) hpq (by omega)] at ho
 refine ho.mono ?_
 rintro r h' ⟨rfl,C',hs',g⟩
 exact ⟨rfl,C',hs',d.gr g hs'.top,g,tp2 (tpGr (J:=fun j=>C j+D j) (fun j hj=>by show C j+D j≠0;omega) g htv)⟩
def Io (g:AH) (pa La Qa pb Lb Qb:Nat) (B:Nat→Nat) (tvb:AV) (tb:Tp) (i:Nat) (h:AH):Prop :=
 ∃A tva ta c st a x bs,SA A h pa La Qa pS 1048576 (Wx 4194304 pS c st a x []).l (Wx 4194304 pS c st a x []).T tva∧SA B h pb Lb Qb pS 1048576 (Wx 4194304 pS 3 2 [] [] []).l (Wx 4194304 pS 3 2 [] [] []).T tvb∧D2 g h A B∧TpA (fun j=>A j+B j) h tva ta∧TpA (fun j=>A j+B j) h tvb tb∧riseP (ino ta)∧Hp ta∧c≤3+i ∧
  List.length bs≤i∧(∀b∈bs,(List.length b≤60∧wtf lenP b≤300∧∀p∈b,byL p.1∧byL p.2.1)∧(recP b).2=0)∧a=recs bs∧ino ta=dones [] bs
set_option maxHeartbeats 64000000 in
theorem orders5 (hS:Sw S) (hN:∀args h,S 5 args h=none) (hL:∀h,S 6 [] h=some (.bool true,h)) {h:AH} {x0:AV} {Ls:List (KL (List Nat×Bool))}
  (hx0:Qs h x0 Ls) (hb0:∀l∈Ls,∀p∈l,byL p.1∧byL p.2.1):RnC Tryz.prog S 5 [x0] h fun r _=>r=.bool true:=by
 refine RnC.enter' Tryz.f5 _ 126 [.tmp 2] (hN _ _) bd5 Tryz.func5 rfl rfl rfl ?_
 obtain ⟨lv0,o0⟩:=hx0.ln
 simp (maxSteps:=1000000) -dsimp (disch:=(repeat first | rw [nxn] | rw [nxp]);try omega) only [go_sem]
 refine callK_of (RnC.sum (hL _) (Q:=fun v h'=>v=.bool true∧h'=h) ⟨rfl,rfl⟩) ?_
 rintro r g ⟨rfl,rfl⟩
 by_cases h8:8<Ls.length
 ·have c8:(8:Int)<((Ls.length:Nat):Int):=by omega
  simp (maxSteps:=1000000) -dsimp (disch:=(repeat first | rw [nxn] | rw [nxp]);try omega) only [go_sem,lv0,o0,c8]
 have c8:¬(8:Int)<((Ls.length:Nat):Int):=by omega
 simp (maxSteps:=1000000) -dsimp (disch:=(repeat first | rw [nxn] | rw [nxp]);try omega) only [go_sem,lv0,o0,c8]
 refine callK_of (newC hS.wl.toSt (4194304:Int)) ?_
 rintro r g3 ⟨f3,hr⟩
 rw [if_pos (by omega)] at hr
 obtain ⟨rfl,n3,hT3⟩:=hr
 simp (maxSteps:=1000000) -dsimp (disch:=(repeat first | rw [nxn] | rw [nxp]);try omega) only [go_sem]
 refine callK_of (newC hS.wl.toSt (4194304:Int)) ?_
 rintro r g4 ⟨f4,hr⟩
 rw [if_pos (by omega)] at hr
 obtain ⟨rfl,n4,hT4⟩:=hr
 obtain ⟨A,B,hA4,hB4,d4⟩:∃A B:Nat→Nat,TA A g4 (g.nx+2) (newT 4194304)∧TA B g4 (g3.nx+2) (newT 4194304)∧D2 g g4 A B:=by
  refine ⟨_,_,TA.fr (⟨⟨_,_,_,_,_,hT3,fun j hj=>hj⟩,hT3.top⟩:TA _ g3 _ _) f4,⟨⟨_,_,_,_,_,hT4,fun j hj=>hj⟩,hT4.top⟩,⟨fun j hj=>?_,fun j hj=>hT3.top j (by omega),hT4.top,f3.trans f4,fun j hj=>?_,fun j hj=>?_⟩⟩
  ·have h1:j<g3.nx:=Nat.lt_of_not_le fun hh=>hj (hT3.top j hh)
   rw [if_neg (by omega),if_neg (by omega),if_neg (by omega)]
  ·rw [if_neg (by omega),if_neg (by omega),if_neg (by omega)]
  ·rw [if_neg (by omega),if_neg (by omega),if_neg (by omega)]
 clear hT3 hT4
 generalize g.nx+2=pa at hA4
 generalize g3.nx+2=pb at hB4
 simp (maxSteps:=1000000) -dsimp (disch:=(repeat first | rw [nxn] | rw [nxp]);try omega) only [go_sem,pSb]
 refine callK_of (openS hS (J:=fun j=>A j+B j) hA4 (fun j hj=>by show A j+B j≠0;omega) d4.top (Bm.new _) (by decide) (by decide) pSok (fun i hi=>by simp [newT,valS] at hi) (gr:=1048576) (wt_new pSne (by decide)) rfl (by decide) (fun x hx=>by cases hx) (fun i=>by simp [itX])) ?_
 rintro r g5 ⟨A5,La,Qa,tva,ta,rfl,hsA,gA,_,_,htA,hiA,hrA,hHA⟩
 have d5:=d4.gr gA hsA.top
 have hB5:=hB4.kp gA.nx (d4.dj.kp gA d4.td)
 have htA5:=tp2 htA
 simp (maxSteps:=1000000) -dsimp (disch:=(repeat first | rw [nxn] | rw [nxp]);try omega) only [go_sem,pSb]
 refine callK_of (openS hS (J:=fun j=>B j+A5 j) hB5 (fun j hj=>by show B j+A5 j≠0;omega) d5.swap.top (Bm.new _) (by decide) (by decide) pSok (fun i hi=>by simp [newT,valS] at hi) (gr:=1048576) (wt_new pSne (by decide)) rfl (by decide) (fun x hx=>by cases hx) (fun i=>by simp [itX])) ?_
 rintro r g6 ⟨B6,Lb,Qb,tvb,tb,rfl,hsB,gB,_,_,htB,hiB,hrB,hHB⟩
 have d6:=(d5.swap.gr gB hsB.top).swap
 have hsA6:=hsA.kp gB.nx (d5.swap.dj.kp gB d5.tc)
 have htB6:=tpc (tp2 htB)
 have htA6:=tpc (tp2 (tpGr (J:=fun j=>B j+A5 j) (fun j hj=>by show B j+A5 j≠0;omega) gB (tpc htA5)))
 clear htA htB htA5 hsA
 have hI0:Io g pa La Qa pb Lb Qb B6 tvb tb 0 g6:=⟨A5,tva,ta,3,2,[],[],[],hsA6,hsB,d6,htA6,htB6,hiA▸hrA,hHA,Nat.le_refl _,Nat.le_refl _,fun b hb=>(by cases hb),rfl,hiA⟩
 simp (maxSteps:=1000000) -dsimp (disch:=(repeat first | rw [nxn] | rw [nxp]);try omega) only [go_sem,lv0,o0]
 refine loopK_of (RnL.rounds (Q:=fun ex u=>u.d=[]∧(ex=.ret∧u.t.get 2=some (.bool true)∨ex=.exit 0∧u.t.get 3=some (.ptr pa 0)∧u.t.get 7=some (.ptr Qa 0)∧u.t.get 8=some (.ptr Qb 0)∧Io g pa La Qa pb Lb Qb B6 tvb tb 8 u.h))
  (fun m u=>u.d=[]∧u.t.get 0=some x0∧u.t.get 3=some (.ptr pa 0)∧u.t.get 7=some (.ptr Qa 0)∧u.t.get 8=some (.ptr Qb 0)∧∃i:Nat,u.t.get 9=some (.int .i64 (i:Nat))∧i≤Ls.length∧m=Ls.length-i∧Io g pa La Qa pb Lb Qb B6 tvb tb i u.h) ?_ Ls.length ?_) ?_
 ·rintro m ⟨tt,gx,d⟩ ⟨e2,v0,v3,v7,v8,i,v9,hi,rfl,hI⟩
  dsimp only at e2 v0 v3 v7 v8 v9 hI
  subst e2
  by_cases c1:(i:Int)<(Ls.length:Nat)
  ·have hil:i<Ls.length:=by omega
   obtain ⟨l,hli⟩:∃l,Ls[i]? = some l:=⟨_,List.getElem?_eq_getElem hil⟩
   have hlm:l∈Ls:=List.mem_iff_getElem?.2 ⟨i,hli⟩
   obtain ⟨A,tva,ta,c,st,a,x,bs,hsA,hsB,d,htA,htB,hr,hH,hc,hbl,hbs,rfl,hit⟩:=hI
   obtain ⟨id,cs,w,rfl,hgi,hcw,hw⟩:=(hx0.fr d.fr).at hli
   have hidn:id<gx.nx:=Nat.lt_of_not_le fun hh=>by
    have hx:=hx0.fr d.fr
    rcases hx with ⟨hh2,_⟩ | ⟨id2,cs2,h1,h2,h3,_⟩
    ·cases hh2
    ·cases h1;omega
   have ow:=hw.ln.2.2
   try simp (maxSteps:=1000000) -dsimp (disch:=(repeat first | rw [nxn] | rw [nxp]);try omega) only [go_sem,c1,v0,v3,v7,v8,v9,lv0,hil,hgi,hcw,ow,Nat.mul_one]
   refine callK_of (lightS hS hw (N:=60) (M:=300) (by decide) (by decide)) ?_
   rintro r g1 ⟨f1,b1,rfl,hl1⟩
   cases b1
   ·simp (maxSteps:=1000000) -dsimp (disch:=(repeat first | rw [nxn] | rw [nxp]);try omega) only [go_sem]
    first | exact ⟨trivial,.inl ⟨trivial,trivial⟩⟩ | simp
   obtain ⟨nl,wl⟩:=hl1 rfl
   obtain ⟨wl1,_⟩:=wM_eq wl
   have gl:Gd l:=⟨by omega,by omega,hb0 l hlm⟩
   obtain ⟨v,g7,ha7,f7,hz7,ov7⟩:=appP (h0:=g1) (h:=g1.new (.cells [] true true)) (m:=l) (ez0 g1) ((hw.fr f1).fr (Fr.new _ _)) (Fr.new _ _) (by simp;omega)
   rw [List.nil_append] at hz7
   have hgi1:(g1.new (.cells [] true true)).get id=_:=((f1.trans (Fr.new _ _)).get id hidn).trans hgi
   try simp (maxSteps:=1000000) -dsimp (disch:=(repeat first | rw [nxn] | rw [nxp]);try omega) only [go_sem,v0,v3,v7,v8,v9,hil,hgi1,hcw,ow,Nat.mul_one,ha7,ov7]
   have f17:=f1.trans f7
   have d7:=d.more f17
   obtain ⟨rl1,rl2⟩:=recs_len (bs:=bs) fun b hb=>⟨by have:=(hbs b hb).1.1;omega,by have:=(hbs b hb).1.2.1;omega,(hbs b hb).1.2.2⟩
   have hdl:=(dones_sm (L:=[]) (n:=0) (w:=0) ⟨Nat.le_refl _,Nat.le_refl _,fun p hp=>by cases hp⟩ hbs).len
   have hrl:(recs bs).length=bs.length:=by simp
   refine callK_of (batch2 hS (R:=4194304) (Lk:=ino ta) d7 (hsA.fr f17) pSok (by omega) (by omega) (by decide) (by omega) (by omega) (htA.fr f17) rfl hr (by rw [hit];omega) (Ps.of hz7) (fun id o n z c hh=>d.tc id (Nat.le_trans f1.nx (ezGe hz7 hh))) gl) ?_
   rintro r g8 ⟨rfl,A8,tva8,ta8,c8,st8,a8,x8,hsA8,d8,gA8,htA8,hrA8,hHA8,hc8,e8,n8⟩
   have hI8:Io g pa La Qa pb Lb Qb B6 tvb tb (i+1) g8:=by
    have hsB8:=(hsB.fr f17).kp gA8.nx (d7.dj.kp gA8 d7.td)
    have htB8:=tp2 (tpGr (J:=fun j=>A j+B6 j) (fun j hj=>by show A j+B6 j≠0;omega) gA8 (htB.fr f17))
    by_cases hok:(recP l).2=0
    ·refine ⟨A8,tva8,ta8,c8,st8,a8,x8,bs++[l],hsA8,hsB8,d8,htA8,htB8,hrA8,hHA8 hH,by omega,by rw [List.length_append];simp;omega,fun b hb=>?_,?_,?_⟩
     ·rcases List.mem_append.1 hb with hb | hb
      ·exact hbs b hb
      ·rw [List.mem_singleton.1 hb];exact ⟨⟨nl,wl1,hb0 l hlm⟩,hok⟩
     ·rw [(e8 hok).1];simp
     ·rw [(e8 hok).2,dones_app,←hit];rfl
    ·exact ⟨A8,tva8,ta8,c8,st8,a8,x8,bs,hsA8,hsB8,d8,htA8,htB8,hrA8,hHA8 hH,by omega,by omega,hbs,(n8 hok).1,(n8 hok).2.trans hit⟩
   try simp (maxSteps:=1000000) -dsimp (disch:=(repeat first | rw [nxn] | rw [nxp]);try omega) only [go_sem,v0,v3,v7,v8,v9]
   exact ⟨Ls.length-(i+1),by omega,trivial,trivial,trivial,trivial,trivial,i+1,rfl,by omega,rfl,hI8⟩
  ·have:i=Ls.length:=by omega
   subst this
   try simp (maxSteps:=1000000) -dsimp (disch:=(repeat first | rw [nxn] | rw [nxp]);try omega) only [go_sem,c1,v0,v3,v7,v8,v9,lv0]
   obtain ⟨A,tva,ta,c,st,a,x,bs,q1,q2,q3,q4,q5,q6,q7,q8,q9,q10⟩:=hI
   have hI':Io g pa La Qa pb Lb Qb B6 tvb tb 8 gx:=⟨A,tva,ta,c,st,a,x,bs,q1,q2,q3,q4,q5,q6,q7,by omega,by omega,q10⟩
   first | exact ⟨trivial,.inr ⟨trivial,trivial,trivial,trivial,hI'⟩⟩ | exact hI' | simpa using hI'
 ·simp (maxSteps:=1000000) -dsimp (disch:=(repeat first | rw [nxn] | rw [nxp]);try omega) only [go_sem]
  exact ⟨trivial,trivial,trivial,trivial,trivial,0,rfl,Nat.zero_le _,rfl,hI0⟩
 ·rintro ex ⟨tt,gx,d⟩ ⟨e2,⟨rfl,t2⟩ | ⟨rfl,v3,v7,v8,hI⟩⟩
  ·dsimp only at e2 t2
   subst e2
   try simp (maxSteps:=1000000) -dsimp (disch:=(repeat first | rw [nxn] | rw [nxp]);try omega) only [go_sem,t2]
  ·dsimp only at e2 v3 v7 v8 hI
   subst e2
   obtain ⟨A,tva,ta,c,st,a,x,bs,hsA,hsB,d,htA,htB,hr,hH,hc,hbl,hbs,rfl,hit⟩:=hI
   have hsm0:=dones_sm (L:=[]) (n:=0) (w:=0) ⟨Nat.le_refl _,Nat.le_refl _,fun p hp=>by cases hp⟩ hbs
   rw [←hit] at hsm0
   have hsm:Sm (ino ta) 480 2400:=⟨by have:=hsm0.len;omega,by have:=hsm0.wt;omega,hsm0.ok⟩
   obtain ⟨m1,m2,m3,m4⟩:=hsm.all (by decide) (by decide)
   have hsz:ta.size≤480:=by rw [Tp.size_eq];exact hsm.len
   obtain ⟨rl1,rl2⟩:=recs_len (bs:=bs) fun b hb=>⟨by have:=(hbs b hb).1.1;omega,by have:=(hbs b hb).1.2.1;omega,(hbs b hb).1.2.2⟩
   have hnl:(pf (nodT ta)).length≤1000000:=by
    simp only [pf,List.length_map]
    rw [nod_len]
    omega
   have oa:=htA.one.1
   have oma:=oa
   unfold oneA at oma
   try simp (maxSteps:=1000000) -dsimp (disch:=(repeat first | rw [nxn] | rw [nxp]);try omega) only [go_sem,v3,v7,v8]
   refine callK_of (stableC hS hsA.qcc htA) ?_
   rintro r g1 ⟨rfl,f1⟩
   try simp (maxSteps:=1000000) -dsimp (disch:=(repeat first | rw [nxn] | rw [nxp]);try omega) only [go_sem,v3,v7,v8,oa,oma]
   refine callK_of (nodesC hS (htA.fr f1) (by omega)) ?_
   rintro was g2 ⟨hw2,f2,hwn⟩
   have ow:=hw2.ln.2.2
   have wA:∀id o n z c,was=.sl id o n z c→A id=0:=fun id o n z c hh=>d.tc id (Nat.le_trans f1.nx (hwn id o n z c hh))
   have wB:∀id o n z c,was=.sl id o n z c→B6 id=0:=fun id o n z c hh=>d.td id (Nat.le_trans f1.nx (hwn id o n z c hh))
   have f12:=f1.trans f2
   have d2:=d.more f12
   try simp (maxSteps:=1000000) -dsimp (disch:=(repeat first | rw [nxn] | rw [nxp]);try omega) only [go_sem,v3,v7,v8,ow]
   refine callK_of (order2 hS (R:=4194304) (Lk:=ino ta) d2 (hsA.fr f12) pSok (by omega) pSne (by omega) (htA.fr f12) rfl hsm (by decide) (by decide)) ?_
   rintro r g3' ⟨rfl,A3,hsA3,d3,gA3,htA3⟩
   obtain ⟨hw3,wA3⟩:=psGr hw2 wA gA3
   have hsB3:=(hsB.fr f12).kp gA3.nx (d2.dj.kp gA3 d2.td)
   have htB3:=tp2 (tpGr (J:=fun j=>A j+B6 j) (fun j hj=>by show A j+B6 j≠0;omega) gA3 (htB.fr f12))
   try simp (maxSteps:=1000000) -dsimp (disch:=(repeat first | rw [nxn] | rw [nxp]);try omega) only [go_sem,v3,v7,v8]
   refine callK_of (stableC hS hsA3.qcc htA3) ?_
   rintro r g4' ⟨rfl,f4'⟩
   try simp (maxSteps:=1000000) -dsimp (disch:=(repeat first | rw [nxn] | rw [nxp]);try omega) only [go_sem,v3,v7,v8,oa,oma]
   refine callK_of (nodesC hS (htA3.fr f4') (by omega)) ?_
   rintro w5 g5' ⟨hw5,f5',_⟩
   have o5:=hw5.ln.2.2
   have f45:=f4'.trans f5'
   try simp (maxSteps:=1000000) -dsimp (disch:=(repeat first | rw [nxn] | rw [nxp]);try omega) only [go_sem,v3,v7,v8,ow,o5]
   refine callK_of (pairsS hS hw5 (hw3.fr f45) hnl) ?_
   rintro r g6' ⟨rfl,f6'⟩
   have f46:=f45.trans f6'
   have hsA6:=hsA3.fr f46
   have hsB6:=hsB3.fr f46
   have d6':=d3.more f46
   have hw6:=hw3.fr f46
   have htA6:=htA3.fr f46
   have htB6':=htB3.fr f46
   obtain ⟨K,nm,sm,chv,ρ,hT,hC,kL,kQ⟩:=hsA6.tr
   have tK:TA K g6' pa (Wu 4194304 pS (c+1+1+1) ⟨frs (recs bs),x,st⟩ (frs [allE (ino ta)]) (c+1+1)):=⟨⟨K,nm,sm,chv,ρ,hT,fun j hj=>hj⟩,hT.top⟩
   have kB:∀j,B6 j≠0→K j=0:=fun j hj=>Decidable.byContradiction fun hh=>hC j hh (d6'.swap.dj j hj)
   have hfl:(frs [allE (ino ta)]).length=(allE (ino ta)).length+8:=by rw [frs_sum];simp [sumL]
   have za6:=hsA6.zq
   try simp (maxSteps:=1000000) -dsimp (disch:=(repeat first | rw [nxn] | rw [nxp]);try omega) only [go_sem,v3,v7,v8,pSb]
   refine callK_of (openS hS (J:=fun j=>A3 j+B6 j) tK (fun j hj=>by have:=hC j hj;show A3 j+B6 j≠0;omega) d6'.top wu_bm (by decide) (by omega) pSok (fun i hi=>by
    simp [Wu,valS] at hi
    subst hi
    show (frs [allE (ino ta)]).length≤_
    omega) (gr:=1048576) (s:=[allE (ino ta)]) (wu_open pSne (fun x hx=>by rw [List.mem_singleton.1 hx];omega)) (tel_all hsm hr (by decide) (by decide)) (by simp) (fun x hx=>by rw [List.mem_singleton.1 hx];exact fit_all hsm hr (by decide) (by decide)) (it_all hsm hr (by decide) (by decide))) ?_
   rintro r g7' ⟨C7,Lc,Qc',tvc,tc,rfl,hsC,gC,_,_,htC,hiC,hrC,hHC⟩
   have eca:tc=ta:=hp_uniq hiC (hiC▸hr) hHC hH
   subst eca
   have za7:=za6.gr gC kQ kL
   have zc7:=hsC.zq
   obtain ⟨hw7,wC7⟩:=psGr hw6 (fun id o n z c hh=>Decidable.byContradiction fun h5=>hC id h5 (wA3 id o n z c hh)) gC
   have hsB7:=hsB6.kp gC.nx fun j hj=>(gC.get j (hsB6.lt hj) (kB j hj)).1
   have htB7:TpA (fun j=>B6 j+(C7 j+A3 j)) g7' tvb tb:=(tpGr (J:=fun j=>A3 j+B6 j) (fun j hj=>by have:=hC j hj;show A3 j+B6 j≠0;omega) gC htB6').col fun j _ hk=>by
    have hk':C7 j+(A3 j+B6 j)=0:=hk
    show B6 j+(C7 j+A3 j)=0
    omega
   obtain ⟨fg7,og7⟩:=Go.Proofs.YtaooopaemphfjaaGreatDoor.tre.Gr.fr gC d6'.fr fun j hj=>Decidable.byContradiction fun hh=>hC j hh (d6'.oc j hj)
   have d7:D2 g g7' B6 (fun j=>C7 j+A3 j):=⟨fun j hj=>by
     have h1:=(gC.get j (hsB6.lt hj) (kB j hj)).2
     have h2:=d6'.swap.dj j hj
     show C7 j+A3 j=0
     omega,fun j hj=>d6'.td j (Nat.le_trans gC.nx hj),fun j hj=>by
     have h1:=hsC.top j hj
     have h2:=d6'.tc j (Nat.le_trans gC.nx hj)
     show C7 j+A3 j=0
     omega,fg7,d6'.od,fun j hj=>by
     have h1:=og7 j hj
     have h2:=d6'.oc j hj
     show C7 j+A3 j=0
     omega⟩
   have oc:=htC.one.1
   have omc:=oc
   unfold oneA at omc
   try simp (maxSteps:=1000000) -dsimp (disch:=(repeat first | rw [nxn] | rw [nxp]);try omega) only [go_sem,v3,v7,v8]
   refine callK_of (stableC hS hsC.qcc htC) ?_
   rintro r g8 ⟨rfl,f8⟩
   try simp (maxSteps:=1000000) -dsimp (disch:=(repeat first | rw [nxn] | rw [nxp]);try omega) only [go_sem,v3,v7,v8,oc,omc]
   refine callK_of (nodesC hS (htC.fr f8) (by omega)) ?_
   rintro w9 g9 ⟨hw9,f9,_⟩
   have o9:=hw9.ln.2.2
   try simp (maxSteps:=1000000) -dsimp (disch:=(repeat first | rw [nxn] | rw [nxp]);try omega) only [go_sem,v3,v7,v8,ow,o9]
   refine callK_of (pairsS hS hw9 (hw7.fr (f8.trans f9)) hnl) ?_
   rintro r g10 ⟨rfl,f10⟩
   have f810:=(f8.trans f9).trans f10
   obtain ⟨gd,gk⟩:=gd_nod hsm (by decide) (by decide)
   -- the other store
   try simp (maxSteps:=1000000) -dsimp (disch:=(repeat first | rw [nxn] | rw [nxp]);try omega) only [go_sem,v3,v7,v8,ow]
   refine callK_of (batch2 hS (R:=4194304) (c:=3) (st:=2) (a:=[]) (x:=[]) (Lk:=[]) (d7.more f810) (hsB7.fr f810) pSok (by decide) (Nat.zero_le _) (by decide) (Nat.zero_le _) (by decide) (htB7.fr f810) hiB trivial (Nat.zero_le _) (hw7.fr f810) wB gd) ?_
   rintro r g11 ⟨rfl,B11,tvb11,tb11,c11,st11,a11,x11,hsB11,d11,gB11,htB11,hrB11,hHB11,hc11,e11,n11⟩
   obtain ⟨ea11,et11⟩:=e11 gk
   have eta:ino tb11=ino tc:=et11.trans (done_perm hr fun e=>nod_mem)
   have etb:tb11=tc:=hp_uniq eta hrB11 (hHB11 hHB) hH
   subst etb
   obtain ⟨hw11,wB11⟩:=psGr (hw7.fr f810) wB gB11
   have bL:∀j,C7 j+A3 j≠0→B6 j=0:=fun j hj=>d7.swap.dj j hj
   have za11:=(za7.fr f810).gr gB11 (bL Qa (by have:=hsA6.cq;omega)) (bL La (by have:=hsA6.cl;omega))
   have zc11:=(zc7.fr f810).gr gB11 (bL Qc' (by have:=hsC.cq;omega)) (bL Lc (by have:=hsC.cl;omega))
   have gki:(((recP (pf (nodT tb11))).2:Nat):Int)=0:=by omega
   have hlr:=gd.len
   have hgn:=gd.n
   have hgw:=gd.w
   have ha11:(frs a11).length≤6000:=by
    rw [ea11,List.nil_append,frs_sum]
    simp [sumL]
    omega
   try simp (maxSteps:=1000000) -dsimp (disch:=(repeat first | rw [nxn] | rw [nxp]);try omega) only [go_sem,v3,v7,v8,gki]
   refine callK_of (order2 hS (R:=4194304) (Lk:=ino tb11) d11 hsB11 pSok (by omega) pSne (by omega) htB11 rfl hsm (by decide) (by decide)) ?_
   rintro r g12 ⟨rfl,B12,hsB12,d12,gB12,htB12⟩
   obtain ⟨hw12,_⟩:=psGr hw11 wB11 gB12
   have bL2:∀j,C7 j+A3 j≠0→B11 j=0:=fun j hj=>d11.swap.dj j hj
   have za12:=za11.gr gB12 (bL2 Qa (by have:=hsA6.cq;omega)) (bL2 La (by have:=hsA6.cl;omega))
   have zc12:=zc11.gr gB12 (bL2 Qc' (by have:=hsC.cq;omega)) (bL2 Lc (by have:=hsC.cl;omega))
   have ob:=htB12.one.1
   have omb:=ob
   unfold oneA at omb
   try simp (maxSteps:=1000000) -dsimp (disch:=(repeat first | rw [nxn] | rw [nxp]);try omega) only [go_sem,v3,v7,v8]
   refine callK_of (stableC hS hsB12.qcc htB12) ?_
   rintro r g13 ⟨rfl,f13⟩
   try simp (maxSteps:=1000000) -dsimp (disch:=(repeat first | rw [nxn] | rw [nxp]);try omega) only [go_sem,v3,v7,v8,ob,omb]
   refine callK_of (nodesC hS (htB12.fr f13) (by omega)) ?_
   rintro w14 g14 ⟨hw14,f14,_⟩
   have o14:=hw14.ln.2.2
   try simp (maxSteps:=1000000) -dsimp (disch:=(repeat first | rw [nxn] | rw [nxp]);try omega) only [go_sem,v3,v7,v8,ow,o14]
   refine callK_of (pairsS hS hw14 (hw12.fr (f13.trans f14)) hnl) ?_
   rintro r g15 ⟨rfl,f15⟩
   have f1215:=(f13.trans f14).trans f15
   try simp (maxSteps:=1000000) -dsimp (disch:=(repeat first | rw [nxn] | rw [nxp]);try omega) only [go_sem,v3,v7,v8]
   refine callK_of (zC hS (hsB12.zq.fr f1215)) ?_
   rintro r g16 ⟨rfl,rfl⟩
   try simp (maxSteps:=1000000) -dsimp (disch:=(repeat first | rw [nxn] | rw [nxp]);try omega) only [go_sem,v3,v7,v8]
   refine callK_of (zC hS (za12.fr f1215)) ?_
   rintro r g17 ⟨rfl,rfl⟩
   try simp (maxSteps:=1000000) -dsimp (disch:=(repeat first | rw [nxn] | rw [nxp]);try omega) only [go_sem,v3,v7,v8,eqIn]
   refine callK_of (zC hS (zc12.fr f1215)) ?_
   rintro r g18 ⟨rfl,rfl⟩
   try simp (maxSteps:=1000000) -dsimp (disch:=(repeat first | rw [nxn] | rw [nxp]);try omega) only [go_sem,v3,v7,v8,eqIn]
   refine callK_of (zC hS (za12.fr f1215)) ?_
   rintro r g19 ⟨rfl,rfl⟩
   try simp (maxSteps:=1000000) -dsimp (disch:=(repeat first | rw [nxn] | rw [nxp]);try omega) only [go_sem,eqIn]
end
end Go.Proofs.YtaooopaemphfjaaGreatDoor.tbl
end
