/- Texts joined: RCa, RCc, RCd, RCe, RCf. -/
import Derived.Test.YtaooopaemphfjaaGreatDoorG1
set_option maxRecDepth 100000
set_option linter.unusedVariables false
set_option linter.unusedSimpArgs false
set_option maxHeartbeats 16000000
section
namespace Go.Proofs.YtaooopaemphfjaaGreatDoor.tbl
open Go Go.Abs Go.Abs.Rec Go.Proofs
theorem aiB:appI Tryz.prog 5=some (1,1):=by kernel_rfl
def Ey (n0:Nat) (h:AH) (v:AV) (l:List Nat):Prop:=Ez 1 n0 h v (byC l)
theorem Ey.bs {n0:Nat} {h:AH} {v:AV} {l:List Nat} (hb:Ey n0 h v l):Bs h v l:=by
 rcases hb with ⟨rfl,h0⟩ | ⟨id,n,c,tx,rfl,h2,h3,h4,h5,h6,h7⟩
 ·exact .inl ⟨rfl,by simpa [byC] using h0⟩
 ·rw [byC_length,Nat.mul_one] at h5
  subst h5
  refine .inr ⟨id,0,c,byC l,true,tx,rfl,h2,h3,by rw [byC_length];omega,fun k hk=>?_,by rw [List.drop_zero,←byC_length l,List.take_length]⟩
  rcases h6 with rfl | rfl
  ·cases hk
  ·cases hk;exact Nat.le_refl _
theorem Ey.fr {n0:Nat} {h h':AH} {v:AV} {l:List Nat} (hb:Ey n0 h v l) (hf:Fr h h'):Ey n0 h' v l:=Ez.fr hb hf
theorem Ey.one {n0:Nat} {h:AH} {v:AV} {l:List Nat} (hb:Ey n0 h v l):oneA v=true:=(Ez.one hb).2
theorem Ey.shape {n0:Nat} {h:AH} {v:AV} {l:List Nat} (hb:Ey n0 h v l):v=.nilsl∨∃id n c,v=.sl id 0 n 1 c:=by
 rcases hb with ⟨h1,_⟩ | ⟨id,n,c,tx,h1,_⟩
 ·exact .inl h1
 ·exact .inr ⟨id,n,c,h1⟩
theorem Ey.low {n0 n1:Nat} {h:AH} {v:AV} {l:List Nat} (hb:Ey n0 h v l) (hn:n1≤n0):Ey n1 h v l:=Ez.low hb hn
theorem ey1 (h:AH) (l:List Nat) (hl:l≠[]):Ey h.nx (h.new (.cells (byC l) true false)) (.sl h.nx 0 l.length 1 (some l.length)) l :=
 .inr ⟨h.nx,l.length,some l.length,false,rfl,AH.get_new_eq rfl,Nat.lt_succ_self _,Nat.le_refl _,by rw [byC_length,Nat.mul_one],.inr rfl,.inl rfl⟩
theorem ey0 (h:AH):Ey h.nx (h.new (.cells [] true true)) (.sl h.nx 0 0 1 (some 0)) [] :=
 .inr ⟨h.nx,0,some 0,true,rfl,AH.get_new_eq rfl,Nat.lt_succ_self _,Nat.le_refl _,rfl,.inr rfl,.inr ⟨rfl,rfl⟩⟩
theorem appY {h0 h:AH} {v x:AV} {l m:List Nat} (hb:Ey h0.nx h v l) (hx:Bs h x m) (hf:Fr h0 h) (hl:l.length+m.length≤1073741824) :
  ∃v' h',evAppend Tryz.prog h #[87,87] v x=some (.val v' h')∧Fr h0 h'∧Ey h0.nx h' v' (l++m)∧oneA v'=true:=by
 obtain ⟨q1,q2⟩:=hx.first
 obtain ⟨v',h',ha,hf',hz',ov',_⟩:=Ez.app (P:=Tryz.prog) (z:=1) (h0:=h0) (h:=h) (v:=v) (l:=byC l) (x:=x) (k:=m.length) (m:=byC m) Tryz.underlying87 Tryz.underlying87 rfl aiB (by decide) (by decide) hb q1 q2 (by rw [byC_length,Nat.mul_one]) (byC_all m) hf (by rw [byC_length,byC_length];omega)
 exact ⟨v',h',ha,hf',by unfold Ey;rw [show byC (l++m)=byC l++byC m by simp [byC]];exact hz',ov'⟩
theorem appS {h0 h:AH} {v:AV} {l m:List Nat} (hb:Ey h0.nx h v l) (hf:Fr h0 h) (hl:l.length+m.length≤1073741824) :
  ∃v' h',evAppend Tryz.prog h #[87,9] v (.str m)=some (.val v' h')∧Fr h0 h'∧Ey h0.nx h' v' (l++m)∧oneA v'=true:=by
 obtain ⟨v',h',ha,hf',hz',ov',_⟩:=Ez.app (P:=Tryz.prog) (z:=1) (h0:=h0) (h:=h) (v:=v) (l:=byC l) (x:=.str m) (k:=m.length) (m:=byC m) Tryz.underlying87 Tryz.underlying9 rfl aiB (by decide) (by decide) hb rfl (by simp [firstA,byC]) (by rw [byC_length,Nat.mul_one]) (byC_all m) hf (by rw [byC_length,byC_length];omega)
 exact ⟨v',h',ha,hf',by unfold Ey;rw [show byC (l++m)=byC l++byC m by simp [byC]];exact hz',ov'⟩
/-! ### Words -/
theorem and127 (h:AH) (t:TypeId) (n:Nat) (hn:n<18446744073709551616):binA Tryz.prog h .and t (.int .u64 (n:Nat)) (.int .u64 127)=some (.int .u64 ((n%128:Nat):Int)):=by
 have e:(BitVec.ofInt 64 (n:Int) &&& BitVec.ofInt 64 127).toNat=n%128:=by
  rw [BitVec.toNat_and,BitVec.ofInt_natCast,BitVec.toNat_ofNat,Nat.mod_eq_of_lt hn]
  exact Nat.and_two_pow_sub_one_eq_mod n 7
 have e2:IntKind.u64.wrap ((n%128:Nat):Int)=((n%128:Nat):Int):=by
  show ((n%128:Nat):Int)%18446744073709551616=_
  omega
 rw [binA_and]
 show some (AV.int .u64 (IntKind.u64.wrap ((BitVec.ofInt 64 (n:Int) &&& BitVec.ofInt 64 127).toNat:Int)))=_
 rw [e,e2]
theorem shr7 (h:AH) (t:TypeId) (k:IntKind) (n:Nat):binA Tryz.prog h .shr t (.int .u64 (n:Nat)) (.int k 7)=some (.int .u64 ((n/128:Nat):Int)):=by
 rw [binA_shr,if_neg (by decide)]
 show some (AV.int .u64 ((n:Int).fdiv 128))=_
 rw [Int.fdiv_eq_ediv_of_nonneg _ (by decide)]
 congr 2
theorem cv64 (h:AH) (n:Nat) (hn:n<18446744073709551616):evConvert Tryz.prog h 3 62 (.int .i64 (n:Nat))=some (.val (.int .u64 (n:Nat)) h):=by
 have:IntKind.u64.wrap ((n:Nat):Int)=((n:Nat):Int):=by
  show ((n:Nat):Int)%18446744073709551616=_
  omega
 simp only [evConvert,Tryz.underlying3,Tryz.underlying62,val?,this]
theorem cv8 (h:AH) (n:Nat) (hn:n<256):evConvert Tryz.prog h 62 5 (.int .u64 (n:Nat))=some (.val (.int .u8 (n:Nat)) h):=by
 have:IntKind.u8.wrap ((n:Nat):Int)=((n:Nat):Int):=by
  show ((n:Nat):Int)%256=_
  omega
 simp only [evConvert,Tryz.underlying62,Tryz.underlying5,val?,this]
theorem or128 (h:AH) (t:TypeId) (n:Nat) (hn:n<128):binA Tryz.prog h .or t (.int .u8 (n:Nat)) (.int .u8 128)=some (.int .u8 ((n+128:Nat):Int)):=by
 have e:∀n:Fin 128,(BitVec.ofInt 8 ((n.val:Nat):Int) ||| BitVec.ofInt 8 128).toNat=n.val+128:=by decide
 have e1:=e ⟨n,hn⟩
 have e2:IntKind.u8.wrap ((n+128:Nat):Int)=((n+128:Nat):Int):=by
  show ((n+128:Nat):Int)%256=_
  omega
 rw [binA_or]
 show some (AV.int .u8 (IntKind.u8.wrap ((BitVec.ofInt 8 (n:Int) ||| BitVec.ofInt 8 128).toNat:Int)))=_
 rw [e1,e2]
theorem and7 (h:AH) (t:TypeId) (n:Nat) (hn:n<128):binA Tryz.prog h .and t (.int .u8 ((n+128:Nat):Int)) (.int .u8 127)=some (.int .u8 (n:Nat)):=by
 have e:∀n:Fin 128,(BitVec.ofInt 8 ((n.val+128:Nat):Int) &&& BitVec.ofInt 8 127).toNat=n.val:=by decide
 have e1:=e ⟨n,hn⟩
 have e2:IntKind.u8.wrap ((n:Nat):Int)=((n:Nat):Int):=by
  show ((n:Nat):Int)%256=_
  omega
 rw [binA_and]
 show some (AV.int .u8 (IntKind.u8.wrap ((BitVec.ofInt 8 ((n+128:Nat):Int) &&& BitVec.ofInt 8 127).toNat:Int)))=_
 rw [e1,e2]
theorem eqB0 (h:AH):binA Tryz.prog h .eql 87 .nilsl .nilsl=some (.bool true):=by kernel_rfl
theorem eqBs (h:AH) (id o n z:Nat) (c:Option Nat):binA Tryz.prog h .eql 87 (.sl id o n z c) .nilsl=some (.bool false):=by kernel_rfl
section
variable {S : Sums}
structure Tw (S:Sums):Prop where
 nw:∀f args h,f∈[51,113,65,114,66,42,81,43]→S f args h=none
theorem cloB (hS:Tw S) {h:AH} {v:AV} {l:List Nat} (hv:Bs h v l) (hl:l.length≤1000000000) :
  RnC Tryz.prog S 51 [v] h fun r h'=>Fr h h'∧Ey h.nx h' r l:=by
 refine RnC.enter' Tryz.f51 _ 8 [.tmp 2] (hS.nw _ _ _ (by simp)) bd51 Tryz.func51 rfl rfl rfl ?_
 obtain ⟨v',h',ha,hf',hz',ov'⟩:=appY (h0:=h) (h:=h.new (.cells [] true true)) (m:=l) (ey0 h) (hv.fr (Fr.new h _)) (Fr.new h _) (by simp;omega)
 rw [List.nil_append] at hz'
 have sh:=hz'.shape
 rcases hv with ⟨rfl,rfl⟩ | ⟨id,off,c,cs,o,tx,rfl,h2,h3,h4,h5,h6⟩
 ·simp -dsimp (disch:=(repeat first | rw [nxn] | rw [nxp]);try omega) only [go_sem,b0e,eqB0]
  exact ⟨Fr.refl _,.inl ⟨rfl,rfl⟩⟩
 ·have ov:oneA (.sl id off l.length 1 c)=true:=rfl
  rcases sh with rfl | ⟨i5,n5,c5,rfl⟩
  all_goals
   simp -dsimp (disch:=(repeat first | rw [nxn] | rw [nxp]);try omega) only [go_sem,eqBs,ov,ha]
   exact ⟨hf',hz'⟩
theorem revB (hS:Tw S) {n0:Nat} {h:AH} {v:AV} {l:List Nat} (hb:Ey n0 h v l) (hl:l.length=1∨l.length=2):RnC Tryz.prog S 113 [v] h fun r h'=>Ey n0 h' v l.reverse∧h.nx≤h'.nx∧∀j,j<n0→h'.get j=h.get j:=by
 refine RnC.enter' Tryz.f113 _ 28 [] (hS.nw _ _ _ (by simp)) bd113 Tryz.func113 rfl rfl rfl ?_
 rcases hb with ⟨_,h0⟩ | ⟨id,n,c,tx,rfl,h2,h3,h4,h5,h6,h7⟩
 ·have:=congrArg List.length h0
  rw [byC_length] at this
  simp at this
  rw [this] at hl;simp at hl
 rw [byC_length,Nat.mul_one] at h5
 subst h5
 match l,hl with
 | [a],_ =>
  simp -dsimp (disch:=(repeat first | rw [nxn] | rw [nxp]);try omega) only [go_sem,evLen]
  refine loopK_unroll ?_
  simp -dsimp (disch:=(repeat first | rw [nxn] | rw [nxp]);try omega) only [go_sem,evLen]
  exact ⟨.inr ⟨id,1,c,tx,rfl,h2,h3,h4,rfl,h6,h7⟩,Nat.le_refl _,fun _ _=>by first | trivial | rfl⟩
 | [a,b],_ =>
  have h2':h.get id=some (.cells [.int .u8 (a:Int),.int .u8 (b:Int)] true tx):=h2
  simp -dsimp (disch:=(repeat first | rw [nxn] | rw [nxp]);try omega) only [go_sem,evLen]
  refine loopK_unroll ?_
  simp -dsimp (disch:=(repeat first | rw [nxn] | rw [nxp]);try omega) only [go_sem,evLen]
  refine syDraw.keepN 0 (fun _=>True) (by kernel_rfl) (by kernel_rfl) rfl ?_
  simp -dsimp (disch:=(repeat first | rw [nxn] | rw [nxp]);try omega) only [go_sem,evLen,h2']
  refine loopK_unroll ?_
  simp -dsimp (disch:=(repeat first | rw [nxn] | rw [nxp]);try omega) only [go_sem,evLen]
  exact ⟨.inr ⟨id,2,c,tx,rfl,AH.get_put_eq rfl,Nat.lt_of_lt_of_le h3 (Nat.le_add_right _ 16),h4,rfl,h6,by rcases h7 with h7 | ⟨h7,_⟩;exact .inl h7;simp [byC] at h7⟩,Nat.le_add_right _ 16,fun j hj=>(AH.get_put_ne (by omega)).trans (AH.get_put_ne (by omega))⟩
def grp (n:Nat):List Nat:=if n<128 then [n+128] else [n%128+128,n/128+128]
theorem numC (hS:Tw S) {h:AH} {v:AV} {l:List Nat} {n:Nat} (hv:Bs h v l) (hl:l.length≤1000000000) (hn:n<16384):RnC Tryz.prog S 65 [v,.int .u64 (n:Nat)] h fun r h'=>Ey h.nx h' r (l++numE n)∧Fr h h':=by
 refine RnC.enter' Tryz.f65 _ 28 [.tmp 4] (hS.nw _ _ _ (by simp)) bd65 Tryz.func65 rfl rfl rfl ?_
 have ov:oneA v=true:=by rcases hv with ⟨rfl,_⟩ | ⟨_,_,_,_,_,_,rfl,_⟩ <;> rfl
 simp -dsimp (disch:=(repeat first | rw [nxn] | rw [nxp]);try omega) only [go_sem,ov]
 refine loopK_of (Q:=fun ex u=>ex=.exit 0∧u.d=[]∧Fr h u.h∧u.t.get 0=some v∧∃w,u.t.get 5=some w∧Ey h.nx u.h w (grp n)) (RnL.unroll ?_) ?_
 ·have q1:=fun h t=>and127 h t n (by omega)
  have q2:=fun h=>cv8 h (n%128) (by omega)
  have q3:=fun h t=>or128 h t (n%128) (by omega)
  obtain ⟨v2,h2,ha,hf,hb2,ov2⟩:=appY (h0:=h) (h:=h.new (.cells [.int .u8 ((n%128+128:Nat):Int)] true false)) (v:=.nilsl) (l:=[]) (x:=.sl h.nx 0 1 1 (some 1)) (m:=[n%128+128]) (.inl ⟨rfl,rfl⟩) (Ey.bs (ey1 h [n%128+128] (by simp))) (Fr.new h _) (by simp)
  rw [List.nil_append] at hb2
  by_cases hc:n<128
  ·have c:((n/128:Nat):Int)=0:=by omega
   rcases hb2.shape with rfl | ⟨i5,n5,c5,rfl⟩
   all_goals
    simp -dsimp (disch:=(repeat first | rw [nxn] | rw [nxp]);try omega) only [go_sem,q1,q2,q3,shr7,ha,ov2,c]
    refine ⟨trivial,trivial,hf,trivial,_,rfl,?_⟩
    have:grp n=[n%128+128]:=by unfold grp;rw [if_pos hc,Nat.mod_eq_of_lt hc]
    rw [this];exact hb2
  ·have c:¬((n/128:Nat):Int)=0:=by omega
   have q4:=fun h t=>and127 h t (n/128) (by omega)
   have e4:n/128%128=n/128:=Nat.mod_eq_of_lt (by omega)
   rw [e4] at q4
   have q5:=fun h=>cv8 h (n/128) (by omega)
   have q6:=fun h t=>or128 h t (n/128) (by omega)
   have q7:n/128/128=0:=by omega
   have q8:((0:Nat):Int)=0:=rfl
   obtain ⟨v3,h3,ha3,hf3,hb3,ov3⟩:=appY (h0:=h) (h:=h2.new (.cells [.int .u8 ((n/128+128:Nat):Int)] true false)) (v:=v2) (l:=[n%128+128]) (x:=.sl h2.nx 0 1 1 (some 1)) (m:=[n/128+128]) (hb2.fr (Fr.new _ _)) (Ey.bs (ey1 h2 [n/128+128] (by simp))) (hf.news _) (by simp)
   rcases hb2.shape with rfl | ⟨i5,n5,c5,rfl⟩
   all_goals
    simp -dsimp (disch:=(repeat first | rw [nxn] | rw [nxp]);try omega) only [go_sem,q1,q2,q3,shr7,ha,ov2,c]
    refine RnL.unroll ?_
    rcases hb3.shape with rfl | ⟨i6,n6,c6,rfl⟩
    all_goals
     simp -dsimp (disch:=(repeat first | rw [nxn] | rw [nxp]);try omega) only [go_sem,q4,q5,q6,q7,shr7,ha3,ov3,q8]
     refine ⟨trivial,trivial,hf3,trivial,_,rfl,?_⟩
     have:grp n=[n%128+128]++[n/128+128]:=by unfold grp;rw [if_neg hc];rfl
     rw [this];exact hb3
 ·rintro ex ⟨t,g,d⟩ ⟨rfl,rfl,e1,g0,w,g5,hb⟩
  dsimp only at e1 g0 g5 hb
  obtain ⟨r,hr1,hr2,hr3⟩:∃r,grp n=(n%128+128)::r∧(n%128::r).reverse=numE n∧(r.length=0∨r.length=1):=by
   unfold grp numE
   by_cases hc:n<128
   ·rw [if_pos hc,if_pos hc,Nat.mod_eq_of_lt hc];exact ⟨[],rfl,rfl,.inl rfl⟩
   ·rw [if_neg hc,if_neg hc];exact ⟨[n/128+128],rfl,rfl,.inr rfl⟩
  rw [hr1] at hb
  rcases hb with ⟨_,h0⟩ | ⟨id,k,c,tx,rfl,h2,h3,h4,h5,h6,h7⟩
  ·simp [byC] at h0
  rw [byC_length,Nat.mul_one] at h5
  subst h5
  have h2':g.get id=some (.cells (.int .u8 ((n%128+128:Nat):Int)::byC r) true tx):=h2
  have q7:=fun h t=>and7 h t (n%128) (by omega)
  have hz:¬r.length+1=0:=by omega
  have hz2:0<r.length+1:=by omega
  simp -dsimp (disch:=(repeat first | rw [nxn] | rw [nxp]);try omega) only [go_sem,evLen,g0,g5,h2',q7,hz,hz2]
  have hb2:Ey h.nx (g.put id (.cells (.int .u8 ((n%128:Nat):Int)::byC r) true tx)) (.sl id 0 (r.length+1) 1 c) (n%128::r) :=
   .inr ⟨id,r.length+1,c,tx,rfl,AH.get_put_eq rfl,h3,h4,by rw [byC_length];simp,h6,by rcases h7 with h7 | ⟨h7,_⟩;exact .inl h7;simp [byC] at h7⟩
  refine callK_of (revB hS hb2 (by simp only [List.length_cons];omega)) ?_
  rintro w1 g1 ⟨hb3,hn3,ho3⟩
  rw [hr2] at hb3
  have f1:Fr h g1:=⟨Nat.le_trans e1.nx hn3,fun j hj=>(ho3 j hj).trans ((AH.get_put_ne (by omega)).trans (e1.get j hj))⟩
  try simp -dsimp (disch:=(repeat first | rw [nxn] | rw [nxp]);try omega) only [go_sem,g0,ov]
  refine callK_of (cloB hS (hv.fr f1) hl) ?_
  rintro w2 g2 ⟨f2,hb4⟩
  have hnl:(numE n).length≤2:=by unfold numE;split <;> simp
  obtain ⟨v5,h5',ha5,hf5,hb5,ov5⟩:=appY (h0:=g1) hb4 (hb3.bs.fr f2) f2 (by omega)
  have ov4:=hb4.one
  rcases hb5.shape with rfl | ⟨i6,n6,c6,rfl⟩
  all_goals
   simp -dsimp (disch:=(repeat first | rw [nxn] | rw [nxp]);try omega) only [go_sem,g0,g5,ha5,ov4,ov5]
   exact ⟨hb5.low f1.nx,f1.trans hf5⟩
theorem pieC (hS:Tw S) {h:AH} {v:AV} {l s:List Nat} (hv:Bs h v l) (hl:l.length≤1000000000) (hs:s.length<16384):RnC Tryz.prog S 114 [v,.str s] h fun r h'=>∃w,r=.tup [w,.int .i64 0]∧Ey h.nx h' w (l++pieceE s)∧Fr h h':=by
 refine RnC.enter' Tryz.f114 _ 16 [.tmp 4,.tmp 5] (hS.nw _ _ _ (by simp)) bd114 Tryz.func114 rfl rfl rfl ?_
 have ov:oneA v=true:=by rcases hv with ⟨rfl,_⟩ | ⟨_,_,_,_,_,_,rfl,_⟩ <;> rfl
 have c1:¬(1048576:Int)<(s.length:Nat):=by omega
 have ls:∀g:AH,evLen Tryz.prog g #[9] (.str s)=some (.int .i64 (s.length:Nat)):=fun g=>by simp [evLen,Tryz.underlying9]
 have cv:=fun h=>cv64 h s.length (by omega)
 simp -dsimp (disch:=(repeat first | rw [nxn] | rw [nxp]);try omega) only [go_sem,c1,ls,cv,ov]
 refine callK_of (numC hS hv hl hs) ?_
 rintro w g ⟨hb,f1⟩
 have hnl:(numE s.length).length≤2:=by unfold numE;split <;> simp
 obtain ⟨v5,h5',ha5,hf5,hb5,ov5⟩:=appS (h0:=h) (m:=s) hb f1 (by rw [List.length_append];omega)
 have ow:=hb.one
 have e:l++numE s.length++s=l++pieceE s:=by simp [pieceE]
 rw [e] at hb5
 rcases hb5.shape with rfl | ⟨i6,n6,c6,rfl⟩
 all_goals
  simp -dsimp (disch:=(repeat first | rw [nxn] | rw [nxp]);try omega) only [go_sem,ha5,ow,ov5]
  exact ⟨_,rfl,hb5,hf5⟩
theorem spiC (hS:Tw S) {h:AH} {v:AV} {l s:List Nat} (hv:Bs h v l) (hl:l.length≤1000000000) (hs:s.length<16384):RnC Tryz.prog S 66 [v,.str s] h fun r h'=>Ey h.nx h' r (l++pieceE s)∧Fr h h':=by
 refine RnC.enter' Tryz.f66 _ 12 [.tmp 4] (hS.nw _ _ _ (by simp)) bd66 Tryz.func66 rfl rfl rfl ?_
 have ov:oneA v=true:=by rcases hv with ⟨rfl,_⟩ | ⟨_,_,_,_,_,_,rfl,_⟩ <;> rfl
 simp -dsimp (disch:=(repeat first | rw [nxn] | rw [nxp]);try omega) only [go_sem,ov]
 refine callK_of (pieC hS hv hl hs) ?_
 rintro w g ⟨w2,rfl,hb,f1⟩
 have ow:=hb.one
 rcases hb.shape with rfl | ⟨i6,n6,c6,rfl⟩
 all_goals
  simp -dsimp (disch:=(repeat first | rw [nxn] | rw [nxp]);try omega) only [go_sem,ow]
  exact ⟨hb,f1⟩
end
theorem add128 (h:AH) (t:TypeId) (n:Nat) (hn:n<128):binA Tryz.prog h .add t (.int .u8 (n:Nat)) (.int .u8 128)=some (.int .u8 ((n+128:Nat):Int)):=by
 rw [binA_add]
 have e2:IntKind.u8.wrap ((n:Nat)+128:Int)=((n+128:Nat):Int):=by
  show ((n:Nat)+128:Int)%256=_
  omega
 rw [e2]
def Oz (v:AV) (h:AH) (v':AV) (h':AH):Prop :=
 h.nx≤h'.nx∧(∀j,j<h.nx→(∀id o n c,v=.sl id o n 1 c→j≠id)→h'.get j=h.get j)∧(v'=v∨∃id n,v'=.sl id 0 n 1 none∧h.nx≤id)
theorem Oz.refl (v:AV) (h:AH):Oz v h v h:=⟨Nat.le_refl _,fun _ _ _=>rfl,.inl rfl⟩
theorem Oz.trans {v1 v2 v3:AV} {h1 h2 h3:AH} (a:Oz v1 h1 v2 h2) (b:Oz v2 h2 v3 h3):Oz v1 h1 v3 h3:=by
 obtain ⟨a1,a2,a3⟩:=a
 obtain ⟨b1,b2,b3⟩:=b
 refine ⟨Nat.le_trans a1 b1,fun j hj hne=>(b2 j (by omega) fun id o n c hv=>?_).trans (a2 j hj hne),?_⟩
 ·rcases a3 with rfl | ⟨i,m,rfl,hi⟩
  ·exact hne _ _ _ _ hv
  ·cases hv;omega
 ·rcases b3 with rfl | ⟨i,m,rfl,hi⟩
  ·rcases a3 with rfl | ⟨i,m,rfl,hi⟩
   ·exact .inl rfl
   ·exact .inr ⟨i,m,rfl,hi⟩
  ·exact .inr ⟨i,m,rfl,by omega⟩
theorem Oz.pre {v v':AV} {h g h':AH} (f:Fr h g) (b:Oz v g v' h'):Oz v h v' h':=by
 obtain ⟨b1,b2,b3⟩:=b
 refine ⟨Nat.le_trans f.nx b1,fun j hj hne=>(b2 j (Nat.lt_of_lt_of_le hj f.nx) hne).trans (f.get j hj),?_⟩
 rcases b3 with rfl | ⟨i,m,rfl,hi⟩
 ·exact .inl rfl
 ·exact .inr ⟨i,m,rfl,Nat.le_trans f.nx hi⟩
theorem appY2 {h0 h:AH} {v x:AV} {l m:List Nat} (hb:Ey h0.nx h v l) (hx:Bs h x m) (hf:Fr h0 h) (hl:l.length+m.length≤1073741824) :
  ∃v' h',evAppend Tryz.prog h #[87,87] v x=some (.val v' h')∧Fr h0 h'∧Ey h0.nx h' v' (l++m)∧oneA v'=true∧Oz v h v' h':=by
 obtain ⟨q1,q2⟩:=hx.first
 obtain ⟨v',h',ha,hf',hz',ov',o1,o2,o3⟩:=Ez.app (P:=Tryz.prog) (z:=1) (h0:=h0) (h:=h) (v:=v) (l:=byC l) (x:=x) (k:=m.length) (m:=byC m) Tryz.underlying87 Tryz.underlying87 rfl aiB (by decide) (by decide) hb q1 q2 (by rw [byC_length,Nat.mul_one]) (byC_all m) hf (by rw [byC_length,byC_length];omega)
 exact ⟨v',h',ha,hf',by unfold Ey;rw [show byC (l++m)=byC l++byC m by simp [byC]];exact hz',ov',o1,o2,o3.imp (fun h=>h.2) id⟩
theorem appS2 {h0 h:AH} {v:AV} {l m:List Nat} (hb:Ey h0.nx h v l) (hf:Fr h0 h) (hl:l.length+m.length≤1073741824) :
  ∃v' h',evAppend Tryz.prog h #[87,9] v (.str m)=some (.val v' h')∧Fr h0 h'∧Ey h0.nx h' v' (l++m)∧oneA v'=true∧Oz v h v' h':=by
 obtain ⟨v',h',ha,hf',hz',ov',o1,o2,o3⟩:=Ez.app (P:=Tryz.prog) (z:=1) (h0:=h0) (h:=h) (v:=v) (l:=byC l) (x:=.str m) (k:=m.length) (m:=byC m) Tryz.underlying87 Tryz.underlying9 rfl aiB (by decide) (by decide) hb rfl (by simp [firstA,byC]) (by rw [byC_length,Nat.mul_one]) (byC_all m) hf (by rw [byC_length,byC_length];omega)
 exact ⟨v',h',ha,hf',by unfold Ey;rw [show byC (l++m)=byC l++byC m by simp [byC]];exact hz',ov',o1,o2,o3.imp (fun h=>h.2) id⟩
section
variable {S : Sums}
theorem numDC (hS:Tw S) {h0 h:AH} {v:AV} {l:List Nat} {n:Nat} (hv:Ey h0.nx h v l) (hf0:Fr h0 h) (hl:l.length≤1000000000) (hn:n<16384):RnC Tryz.prog S 42 [v,.int .u64 (n:Nat)] h fun r h'=>Ey h0.nx h' r (l++numE n)∧Fr h0 h'∧Oz v h r h':=by
 refine RnC.enter' Tryz.f42 _ 26 [.tmp 4] (hS.nw _ _ _ (by simp)) bd42 Tryz.func42 rfl rfl rfl ?_
 have ov:=hv.one
 have q1:(((n:Nat):Int).tmod 128)=((n%128:Nat):Int):=rfl
 have q2:=fun h=>cv8 h (n%128) (by omega)
 have q3:(((n:Nat):Int).tdiv 128)=((n/128:Nat):Int):=rfl
 have w64:∀k:Nat,k<18446744073709551616→IntKind.u64.wrap ((k:Nat):Int)=((k:Nat):Int):=fun k hk=>by
  show ((k:Nat):Int)%18446744073709551616=_
  omega
 have q4:=w64 (n/128) (by omega)
 simp -dsimp (disch:=(repeat first | rw [nxn] | rw [nxp]);try omega) only [go_sem,ov,q1,q2,q3,q4]
 have hy1:=ey1 h [n%128] (by simp)
 refine loopK_of (Q:=fun ex u=>ex=.exit 0∧u.d=[]∧Fr h u.h∧u.t.get 0=some v∧∃w,u.t.get 5=some w∧Ey h.nx u.h w (numE n)) (RnL.unroll ?_) ?_
 ·by_cases hc:n<128
  ·have c:¬(0:Int)<((n/128:Nat):Int):=by omega
   simp -dsimp (disch:=(repeat first | rw [nxn] | rw [nxp]);try omega) only [go_sem,c]
   refine ⟨trivial,trivial,Fr.new _ _,trivial,_,rfl,?_⟩
   have:numE n=[n%128]:=by unfold numE;rw [if_pos hc,Nat.mod_eq_of_lt hc]
   rw [this];exact hy1
  ·have c:(0:Int)<((n/128:Nat):Int):=by omega
   have c2:¬(0:Int)<IntKind.u64.wrap 0:=by decide
   have e1:(((n/128:Nat):Int).tmod 128)=((n/128:Nat):Int):=by
    have:(((n/128:Nat):Int).tmod 128)=((n/128%128:Nat):Int):=rfl
    rw [this,Nat.mod_eq_of_lt (by omega)]
   have e2:(((n/128:Nat):Int).tdiv 128)=((0:Nat):Int):=by
    have:(((n/128:Nat):Int).tdiv 128)=((n/128/128:Nat):Int):=rfl
    rw [this,show n/128/128=0 by omega]
   have e3:=w64 0 (by omega)
   have e4:=fun h=>cv8 h (n/128) (by omega)
   have e5:=fun h t=>add128 h t (n/128) (by omega)
   have e6:IntKind.u8.wrap (((n/128:Nat):Int)+128)=((n/128+128:Nat):Int):=by
    show (((n/128:Nat):Int)+128)%256=_
    omega
   obtain ⟨v2,h2,ha,hf,hb2,ov2⟩:=appY (h0:=h) (h:=(h.new (.cells [.int .u8 ((n%128:Nat):Int)] true false)).new (.cells [.int .u8 ((n/128+128:Nat):Int)] true false)) (v:=.sl (h.nx+1) 0 1 1 (some 1)) (l:=[n/128+128]) (x:=.sl h.nx 0 1 1 (some 1)) (m:=[n%128]) ((ey1 (h.new (.cells [.int .u8 ((n%128:Nat):Int)] true false)) [n/128+128] (by simp)).low (Nat.le_succ _)) ((Ey.bs hy1).fr (Fr.new _ _)) ((Fr.new _ _).news _) (by simp)
   rcases hb2.shape with rfl | ⟨i5,n5,c5,rfl⟩
   all_goals
    simp -dsimp (disch:=(repeat first | rw [nxn] | rw [nxp]);try omega) only [go_sem,c,e1,e2,e3,e4,e5,e6,ha,ov2]
    refine RnL.unroll ?_
    simp -dsimp (disch:=(repeat first | rw [nxn] | rw [nxp]);try omega) only [go_sem,c2]
    refine ⟨trivial,trivial,hf,trivial,_,rfl,?_⟩
    have:numE n=[n/128+128]++[n%128]:=by unfold numE;rw [if_neg hc];rfl
    rw [this];exact hb2
 ·rintro ex ⟨t,g,d⟩ ⟨rfl,rfl,e1,g0,w,g5,hb⟩
  dsimp only at e1 g0 g5 hb
  have hnl:(numE n).length≤2:=by unfold numE;split <;> simp
  obtain ⟨v5,h5',ha5,hf5,hb5,ov5,oz5⟩:=appY2 (h0:=h0) (hv.fr e1) hb.bs (hf0.trans e1) (by omega)
  have ow:=hb.one
  rcases hb5.shape with rfl | ⟨i6,n6,c6,rfl⟩
  all_goals
   simp -dsimp (disch:=(repeat first | rw [nxn] | rw [nxp]);try omega) only [go_sem,g0,g5,ha5,ow,ov,ov5]
   exact ⟨hb5,hf5,oz5.pre e1⟩
theorem pieDC (hS:Tw S) {h0 h:AH} {v:AV} {l s:List Nat} (hv:Ey h0.nx h v l) (hf0:Fr h0 h) (hl:l.length≤1000000000) (hs:s.length<16384):RnC Tryz.prog S 81 [v,.str s] h fun r h'=>∃w,r=.tup [w,.int .i64 0]∧Ey h0.nx h' w (l++pieceE s)∧Fr h0 h'∧Oz v h w h':=by
 refine RnC.enter' Tryz.f81 _ 16 [.tmp 4,.tmp 5] (hS.nw _ _ _ (by simp)) bd81 Tryz.func81 rfl rfl rfl ?_
 have ov:=hv.one
 have c1:¬(1048576:Int)<(s.length:Nat):=by omega
 have ls:∀g:AH,evLen Tryz.prog g #[9] (.str s)=some (.int .i64 (s.length:Nat)):=fun g=>by simp [evLen,Tryz.underlying9]
 have cv:=fun h=>cv64 h s.length (by omega)
 simp -dsimp (disch:=(repeat first | rw [nxn] | rw [nxp]);try omega) only [go_sem,c1,ls,cv,ov]
 refine callK_of (numDC hS hv hf0 hl hs) ?_
 rintro w g ⟨hb,f1,oz1⟩
 have hnl:(numE s.length).length≤2:=by unfold numE;split <;> simp
 obtain ⟨v5,h5',ha5,hf5,hb5,ov5,oz5⟩:=appS2 (h0:=h0) (m:=s) hb f1 (by rw [List.length_append];omega)
 have ow:=hb.one
 have e:l++numE s.length++s=l++pieceE s:=by simp [pieceE]
 rw [e] at hb5
 rcases hb5.shape with rfl | ⟨i6,n6,c6,rfl⟩
 all_goals
  simp -dsimp (disch:=(repeat first | rw [nxn] | rw [nxp]);try omega) only [go_sem,ha5,ow,ov5]
  exact ⟨_,rfl,hb5,hf5,oz1.trans oz5⟩
theorem piesDC (hS:Tw S) {h0 h:AH} {v:AV} {l:List Nat} {ts:List (List Nat)} {id n:Nat} {c:Option Nat} (hv:Ey h0.nx h v l) (hf0:Fr h0 h) (hg:h.get id=some (.cells (ts.map .str) true false)) (hid:id<h.nx) (hne:∀i o n c,v=.sl i o n 1 c→id≠i) (hn:n=ts.length) (hn4:n≤4) (hl:l.length≤100000000) (hs:∀s∈ts,s.length<16384) :
  RnC Tryz.prog S 43 [v,.sl id 0 n 1 c] h fun r h'=>Ey h0.nx h' r (l++ts.flatMap pieceE)∧Fr h0 h':=by
 refine RnC.enter' Tryz.f43 _ 22 [.tmp 4] (hS.nw _ _ _ (by simp)) bd43 Tryz.func43 rfl rfl rfl ?_
 have ov:=hv.one
 have lv:∀g,evLen Tryz.prog g #[66] (.sl id 0 n 1 c)=some (.int .i64 (n:Nat)):=fun g=>by simp [evLen,Tryz.underlying66]
 simp -dsimp (disch:=(repeat first | rw [nxn] | rw [nxp]);try omega) only [go_sem,ov]
 refine loopK_of (RnL.rounds (Q:=fun ex u=>ex=.exit 0∧u.d=[]∧∃w,u.t.get 0=some w∧Ey h0.nx u.h w (l++ts.flatMap pieceE)∧Fr h0 u.h)
  (fun m u=>u.d=[]∧u.t.get 1=some (.sl id 0 n 1 c)∧∃(i:Nat) (w:AV),u.t.get 5=some (.int .i64 (i:Nat))∧u.t.get 0=some w∧Ey h0.nx u.h w (l++(ts.take i).flatMap pieceE)∧Fr h0 u.h∧Oz v h w u.h∧i≤n∧(l++(ts.take i).flatMap pieceE).length≤100000000+i*20000∧m=n-i) ?_ n ?_) ?_
 ·rintro m ⟨tt,g,d⟩ ⟨e9,g1,i,w,g5,g0,hb,f1,oz,hi,hbl,rfl⟩
  dsimp only at e9 g0 g1 g5 hb f1 oz
  subst e9
  have ow:=hb.one
  by_cases c4:(i:Int)<(n:Nat)
  ·have hil:i<n:=by omega
   obtain ⟨p,hp⟩:∃p,ts[i]? = some p:=⟨_,List.getElem?_eq_getElem (by omega)⟩
   have hpl:=hs p (List.mem_iff_getElem?.2 ⟨i,hp⟩)
   have hgx:g.get id=some (.cells (ts.map .str) true false):=(oz.2.1 id hid hne).trans hg
   have hx:(ts.map AV.str)[i]? = some (.str p):=by rw [List.getElem?_map,hp];rfl
   have ht:ts.take (i+1)=ts.take i++[p]:=by rw [List.take_add_one,hp];rfl
   have hml:i<(ts.map AV.str).length:=by rw [List.length_map];omega
   simp -dsimp (disch:=(repeat first | rw [nxn] | rw [nxp]);try omega) only [go_sem,c4,g0,g1,g5,lv,hil,hgx,hx,hml,ow,Nat.mul_one]
   refine callK_of (pieDC hS hb f1 (by omega) hpl) ?_
   rintro w2 g2 ⟨w3,rfl,hb3,f3,oz3⟩
   have ow3:=hb3.one
   have e:l++(ts.take i).flatMap pieceE++pieceE p=l++(ts.take (i+1)).flatMap pieceE:=by rw [ht];simp
   rw [e] at hb3
   have hnl:(numE p.length).length≤2:=by unfold numE;split <;> simp
   have hll:(l++(ts.take (i+1)).flatMap pieceE).length≤100000000+(i+1)*20000:=by
    rw [←e]
    simp only [List.length_append,pieceE] at hbl ⊢
    omega
   rcases hb3.shape with rfl | ⟨i6,n6,c6,rfl⟩
   all_goals
    simp -dsimp (disch:=(repeat first | rw [nxn] | rw [nxp]);try omega) only [go_sem,c4,g0,g1,g5,ow3]
    exact ⟨n-(i+1),by omega,trivial,trivial,i+1,_,rfl,rfl,hb3,f3,oz.trans oz3,by omega,hll,rfl⟩
  ·have:i=n:=by omega
   subst this
   rw [List.take_of_length_le (by omega)] at hb
   simp -dsimp (disch:=(repeat first | rw [nxn] | rw [nxp]);try omega) only [go_sem,c4,g0,g1,g5,lv]
   exact ⟨trivial,trivial,w,rfl,hb,f1⟩
 ·simp -dsimp (disch:=(repeat first | rw [nxn] | rw [nxp]);try omega) only [go_sem]
  exact ⟨trivial,trivial,0,v,rfl,rfl,by simpa using hv,hf0,Oz.refl _ _,Nat.zero_le _,by simp;omega,rfl⟩
 ·rintro ex ⟨tt,g,d⟩ ⟨rfl,rfl,w,g0,hb,f1⟩
  dsimp only at g0 hb f1
  have ow:=hb.one
  rcases hb.shape with rfl | ⟨i6,n6,c6,rfl⟩
  all_goals
   simp -dsimp (disch:=(repeat first | rw [nxn] | rw [nxp]);try omega) only [go_sem,g0,ow]
   exact ⟨hb,f1⟩
end
def Fx (p:Nat) (h h':AH):Prop:=h.nx≤h'.nx∧∀j,j<h.nx→j≠p→h'.get j=h.get j
theorem Fx.of {p:Nat} {h h':AH} (f:Fr h h'):Fx p h h':=⟨f.nx,fun j hj _=>f.get j hj⟩
theorem Fx.trans {p:Nat} {h1 h2 h3:AH} (a:Fx p h1 h2) (b:Fx p h2 h3):Fx p h1 h3:=⟨Nat.le_trans a.1 b.1,fun j hj hne=>(b.2 j (Nat.lt_of_lt_of_le hj a.1) hne).trans (a.2 j hj hne)⟩
theorem Fx.fr {p:Nat} {h0 h h':AH} (a:Fx p h h') (f:Fr h0 h) (hp:h0.nx≤p):Fr h0 h':=⟨Nat.le_trans f.nx a.1,fun j hj=>(a.2 j (Nat.lt_of_lt_of_le hj f.nx) (by omega)).trans (f.get j hj)⟩
def Nb (p:Nat) (v:AV):Prop:=∀id o n z c,v=.sl id o n z c→id<p
theorem bsFx {p:Nat} {h h':AH} {v:AV} {l:List Nat} (hb:Bs h v l) (hn:Nb p v) (f:Fx p h h'):Bs h' v l:=by
 rcases hb with h1 | ⟨id,off,c,cs,o,t,h1,h2,h3,h4⟩
 ·exact .inl h1
 ·exact .inr ⟨id,off,c,cs,o,t,h1,(f.2 id h3 (Nat.ne_of_lt (hn _ _ _ _ _ h1))).trans h2,Nat.lt_of_lt_of_le h3 f.1,h4⟩
theorem bsSh {h:AH} {v:AV} {l:List Nat} (hb:Bs h v l):v=.nilsl∨∃id o n z c,v=.sl id o n z c:=by
 rcases hb with ⟨h1,_⟩ | ⟨id,off,c,cs,o,t,h1,_⟩
 ·exact .inl h1
 ·exact .inr ⟨_,_,_,_,_,h1⟩
theorem bsOne {h:AH} {v:AV} {l:List Nat} (hb:Bs h v l):oneA v=true∧sameAV 20 v v=true:=by
 rcases hb with ⟨rfl,_⟩ | ⟨id,off,c,cs,o,t,rfl,_⟩
 ·exact ⟨rfl,rfl⟩
 ·exact ⟨rfl,by simp [sameAV]⟩
theorem bsLn {h:AH} {v:AV} {l:List Nat} (hb:Bs h v l) (g:AH):evLen Tryz.prog g #[87] v=some (.int .i64 (l.length:Nat)):=by
 rcases hb with ⟨rfl,rfl⟩ | ⟨id,off,c,cs,o,t,rfl,_⟩
 ·simp [evLen,Tryz.underlying87]
 ·simp [evLen,Tryz.underlying87]
theorem bsFrom {p:Nat} {h:AH} {v:AV} {l:List Nat} {lo:Nat} (hb:Bs h v l) (hn:Nb p v) (hlo:lo≤l.length) :
  ∃v',(∀h1,evSlice Tryz.prog h1 87 v (some (.int .i64 (lo:Nat))) none none=some v')∧Bs h v' (l.drop lo)∧Nb p v':=by
 rcases hb with ⟨rfl,rfl⟩ | ⟨id,off,c,cs,o,tx,rfl,h2,h3,h4,h5,h6⟩
 ·obtain rfl:lo=0:=by simpa using hlo
  refine ⟨.nilsl,fun h1=>?_,.inl ⟨rfl,rfl⟩,fun _ _ _ _ _ hh=>by cases hh⟩
  simp [evSlice,Tryz.underlying87,tz5,boundsA,boundA,upTo]
 ·refine ⟨.sl id (off+lo*1) (l.length-lo) 1 (c.map (· - lo)),fun h1=>?_,.inr ⟨id,off+lo*1,c.map (· - lo),cs,o,tx,?_,h2,h3,?_,?_,?_⟩,fun _ _ _ _ _ hh=>by cases hh;exact hn _ _ _ _ _ rfl⟩
  ·have hu:upTo ((lo:Nat):Int) l.length=some lo:=by rw [upTo_of (by omega) (by omega)];simp
   simp [evSlice,Tryz.underlying87,tz5,boundsA,boundA,hu]
  ·simp
  ·simp;omega
  ·intro k hk
   cases c with
   | none=>simp at hk
   | some c=>simp at hk;have:=h5 c rfl;simp;omega
  ·rw [List.length_drop,←byC_drop,←h6,List.drop_take,List.drop_drop,Nat.mul_one]
/-! ### Words -/
theorem shr57 (h:AH) (t:TypeId) (k:IntKind) (n:Nat):binA Tryz.prog h .shr t (.int .u64 (n:Nat)) (.int k 57)=some (.int .u64 ((n/144115188075855872:Nat):Int)):=by
 rw [binA_shr,if_neg (by decide)]
 have:(2:Int)^(min (57:Int).toNat IntKind.u64.bits)=144115188075855872:=by decide
 rw [this,Int.fdiv_eq_ediv_of_nonneg _ (by decide)]
 congr 2
theorem shl7 (h:AH) (t:TypeId) (k:IntKind) (n:Nat) (hn:n<144115188075855872):binA Tryz.prog h .shl t (.int .u64 (n:Nat)) (.int k 7)=some (.int .u64 ((n*128:Nat):Int)):=by
 rw [binA_shl,if_neg (by decide)]
 have:(2:Int)^(min (7:Int).toNat IntKind.u64.bits)=128:=by decide
 rw [this]
 have e2:IntKind.u64.wrap ((n:Int)*128)=((n*128:Nat):Int):=by
  show ((n:Int)*128)%18446744073709551616=_
  omega
 rw [e2]
theorem and7u (h:AH) (t:TypeId) (n:Nat) (hn:n<256):binA Tryz.prog h .and t (.int .u8 (n:Nat)) (.int .u8 127)=some (.int .u8 ((n%128:Nat):Int)):=by
 have e:(BitVec.ofInt 8 (n:Int) &&& BitVec.ofInt 8 127).toNat=n%128:=by
  rw [BitVec.toNat_and,BitVec.ofInt_natCast,BitVec.toNat_ofNat,Nat.mod_eq_of_lt hn]
  exact Nat.and_two_pow_sub_one_eq_mod n 7
 have e2:IntKind.u8.wrap ((n%128:Nat):Int)=((n%128:Nat):Int):=by
  show ((n%128:Nat):Int)%256=_
  omega
 rw [binA_and]
 show some (AV.int .u8 (IntKind.u8.wrap ((BitVec.ofInt 8 (n:Int) &&& BitVec.ofInt 8 127).toNat:Int)))=_
 rw [e,e2]
theorem or7 (h:AH) (t:TypeId) (n c:Nat) (hn:n<144115188075855872) (hc:c<128):binA Tryz.prog h .or t (.int .u64 ((n*128:Nat):Int)) (.int .u64 (c:Nat))=some (.int .u64 ((n*128+c:Nat):Int)):=by
 have e:(BitVec.ofInt 64 ((n*128:Nat):Int) ||| BitVec.ofInt 64 (c:Int)).toNat=n*128+c:=by
  rw [BitVec.toNat_or,BitVec.ofInt_natCast,BitVec.ofInt_natCast,BitVec.toNat_ofNat,BitVec.toNat_ofNat,Nat.mod_eq_of_lt (by omega),Nat.mod_eq_of_lt (by omega)]
  exact or_of_lt (k:=7) hc
 have e2:IntKind.u64.wrap ((n*128+c:Nat):Int)=((n*128+c:Nat):Int):=by
  show ((n*128+c:Nat):Int)%18446744073709551616=_
  omega
 rw [binA_or]
 show some (AV.int .u64 (IntKind.u64.wrap ((BitVec.ofInt 64 ((n*128:Nat):Int) ||| BitVec.ofInt 64 (c:Int)).toNat:Int)))=_
 rw [e,e2]
theorem cv8U (h:AH) (n:Nat) (hn:n<256):evConvert Tryz.prog h 5 62 (.int .u8 (n:Nat))=some (.val (.int .u64 (n:Nat)) h):=by
 have:IntKind.u64.wrap ((n:Nat):Int)=((n:Nat):Int):=by
  show ((n:Nat):Int)%18446744073709551616=_
  omega
 simp only [evConvert,Tryz.underlying62,Tryz.underlying5,val?,this]
theorem cvUI (h:AH) (n:Nat) (hn:n<9223372036854775808):evConvert Tryz.prog h 62 3 (.int .u64 (n:Nat))=some (.val (.int .i64 (n:Nat)) h):=by
 have:IntKind.i64.wrap ((n:Nat):Int)=((n:Nat):Int):=wrap64_id (by omega) (by omega)
 simp only [evConvert,Tryz.underlying62,Tryz.underlying3,val?,this]
theorem rdF_cons (x i c:Nat) (r:List Nat):rdF x i (c::r)=if 144115188075855872≤x then (0,0,4) else if c<128 then (x*128+c%128,i+1,0) else rdF (x*128+c%128) (i+1) r:=rfl
theorem rdF_nil (x i:Nat):rdF x i []=if 144115188075855872≤x then (0,0,4) else (0,0,5):=rfl
section
variable {S : Sums}
structure Tr2 (S:Sums):Prop extends Tw S where
 nr:∀f args h,f∈[104,105,106,107,108,109,136,137,138,139,160]→S f args h=none
theorem numR (hS:Tr2 S) {h:AH} {v:AV} {l:List Nat} (hv:Bs h v l) (hb:∀b∈l,b<256) (hl:l.length≤1000000000) :
  RnC Tryz.prog S 137 [v] h fun r h'=>r=.tup [.int .u64 ((rdN l).1:Nat),.int .i64 ((rdN l).2.1:Nat),.int .i64 ((rdN l).2.2:Nat)]∧h'=h:=by
 refine RnC.enter' Tryz.f137 _ 41 [.tmp 2,.tmp 3,.tmp 4] (hS.nr _ _ _ (by simp)) bd137 Tryz.func137 rfl rfl rfl ?_
 have lv:=(bsLn hv)
 have ov:=(bsOne hv).1
 by_cases h0:l[0]? = some 128
 ·have hlen:0<l.length:=by
   rcases l with _ | ⟨a,r⟩
   ·cases h0
   ·simp
  have c0:(0:Int)<(l.length:Nat):=by omega
  have hr:rdN l=(0,0,4):=by unfold rdN;rw [if_pos h0]
  rw [hr]
  rcases hv with ⟨rfl,rfl⟩ | ⟨id,off,c,cs,o,tx,rfl,hg,hid,hle,hc,hx⟩
  ·cases h0
  ·have q0:=bs_get hx h0
   rw [Nat.add_zero] at q0
   simp -dsimp (disch:=(repeat first | rw [nxn] | rw [nxp]);try omega) only [go_sem,lv,c0,hg,q0,ov]
   exact ⟨by first | trivial | rfl,by first | trivial | rfl⟩
 ·have hr:rdN l=rdF 0 0 l:=by unfold rdN;rw [if_neg h0]
  rw [hr]
  by_cases hlen:0<l.length
  ·have c0:(0:Int)<(l.length:Nat):=by omega
   obtain ⟨b0,hb0⟩:∃b,l[0]? = some b:=⟨_,List.getElem?_eq_getElem hlen⟩
   have cb:¬((b0:Nat):Int)=128:=fun hh=>h0 (by rw [hb0];congr 1;omega)
   rcases hv with ⟨rfl,rfl⟩ | ⟨id,off,c,cs,o,tx,rfl,hg,hid,hle,hc,hx⟩
   ·cases hb0
   have q0:=bs_get hx hb0
   rw [Nat.add_zero] at q0
   simp -dsimp (disch:=(repeat first | rw [nxn] | rw [nxp]);try omega) only [go_sem,lv,c0,hg,q0,ov,cb]
   refine loopK_of (RnL.rounds (Q:=fun ex u=>u.d=[]∧u.h=h∧(ex=.exit 0∧(∃x:Nat,u.t.get 2=some (.int .u64 (x:Nat))∧rdF 0 0 l=rdF x l.length [])∨ex=.ret∧u.t.get 2=some (.int .u64 ((rdF 0 0 l).1:Nat))∧u.t.get 3=some (.int .i64 ((rdF 0 0 l).2.1:Nat))∧u.t.get 4=some (.int .i64 ((rdF 0 0 l).2.2:Nat))))
    (fun m u=>u.d=[]∧u.h=h∧u.t.get 16=some (.sl id off l.length 1 c)∧u.t.get 17=some (.int .i64 (l.length:Nat))∧∃i x:Nat,u.t.get 18=some (.int .i64 (i:Nat))∧u.t.get 2=some (.int .u64 (x:Nat))∧i≤l.length∧x<18446744073709551616∧rdF 0 0 l=rdF x i (l.drop i)∧m=l.length-i) ?_ l.length ?_) ?_
   ·rintro m ⟨tt,g,d⟩ ⟨e9,e1,g16,g17,i,x,g18,g2,hi,hxl,hrd,rfl⟩
    dsimp only at e9 e1 g16 g17 g18 g2
    subst e9 e1
    by_cases c4:(i:Int)<(l.length:Nat)
    ·have hil:i<l.length:=by omega
     obtain ⟨b,hbi⟩:∃b,l[i]? = some b:=⟨_,List.getElem?_eq_getElem hil⟩
     have qi:=bs_get hx hbi
     have hb256:b<256:=hb b (List.mem_of_getElem? hbi)
     have hd:l.drop i=b::l.drop (i+1):=by
      rw [List.drop_eq_getElem_cons hil]
      rw [List.getElem?_eq_getElem hil] at hbi
      cases hbi;rfl
     rw [hd,rdF_cons] at hrd
     by_cases c5:144115188075855872≤x
     ·rw [if_pos c5] at hrd
      have c6:¬((x/144115188075855872:Nat):Int)=0:=by omega
      have r1:(rdF 0 0 l).1=0:=by rw [hrd]
      have r2:(rdF 0 0 l).2.1=0:=by rw [hrd]
      have r3:(rdF 0 0 l).2.2=4:=by rw [hrd]
      rw [r1,r2,r3]
      simp -dsimp (disch:=(repeat first | rw [nxn] | rw [nxp]);try omega) only [go_sem,c4,hil,g16,g17,g18,g2,hg,qi,shr57,c6,Nat.mul_one]
      simp
     ·rw [if_neg c5] at hrd
      have c6:((x/144115188075855872:Nat):Int)=0:=by omega
      have q1:=fun h t k=>shl7 h t k x (by omega)
      have q2:=fun h t=>and7u h t b hb256
      have q3:=fun h=>cv8U h (b%128) (by omega)
      have q4:=fun h t=>or7 h t x (b%128) (by omega) (by omega)
      by_cases c7:b<128
      ·rw [if_pos c7] at hrd
       have c8:((b:Nat):Int)<128:=by omega
       have r1:(rdF 0 0 l).1=x*128+b%128:=by rw [hrd]
       have r2:(rdF 0 0 l).2.1=i+1:=by rw [hrd]
       have r3:(rdF 0 0 l).2.2=0:=by rw [hrd]
       rw [r1,r2,r3]
       simp -dsimp (disch:=(repeat first | rw [nxn] | rw [nxp]);try omega) only [go_sem,c4,hil,g16,g17,g18,g2,hg,qi,shr57,c6,q1,q2,q3,q4,c8,Nat.mul_one]
       simp
      ·rw [if_neg c7] at hrd
       have c8:¬((b:Nat):Int)<128:=by omega
       simp -dsimp (disch:=(repeat first | rw [nxn] | rw [nxp]);try omega) only [go_sem,c4,hil,g16,g17,g18,g2,hg,qi,shr57,c6,q1,q2,q3,q4,c8,Nat.mul_one]
       exact ⟨l.length-(i+1),by omega,trivial,trivial,trivial,trivial,i+1,_,rfl,rfl,by omega,by omega,hrd,rfl⟩
    ·have:i=l.length:=by omega
     subst this
     rw [List.drop_length] at hrd
     simp -dsimp (disch:=(repeat first | rw [nxn] | rw [nxp]);try omega) only [go_sem,c4,g16,g17,g18,g2]
     exact ⟨trivial,trivial,.inl ⟨trivial,x,rfl,hrd⟩⟩
   ·simp -dsimp (disch:=(repeat first | rw [nxn] | rw [nxp]);try omega) only [go_sem]
    exact ⟨trivial,trivial,trivial,trivial,0,0,rfl,rfl,Nat.zero_le _,by omega,rfl,rfl⟩
   ·rintro ex ⟨tt,g,d⟩ ⟨e9,e1,⟨rfl,x,g2,hrd⟩ | ⟨rfl,g2,g3,g4⟩⟩
    ·dsimp only at e9 e1 g2
     subst e9 e1
     rw [rdF_nil] at hrd
     by_cases c5:144115188075855872≤x
     ·rw [if_pos c5] at hrd
      have c6:¬((x/144115188075855872:Nat):Int)=0:=by omega
      rw [hrd]
      simp -dsimp (disch:=(repeat first | rw [nxn] | rw [nxp]);try omega) only [go_sem,g2,shr57,c6]
      exact ⟨by first | trivial | rfl,by first | trivial | rfl⟩
     ·rw [if_neg c5] at hrd
      have c6:((x/144115188075855872:Nat):Int)=0:=by omega
      rw [hrd]
      simp -dsimp (disch:=(repeat first | rw [nxn] | rw [nxp]);try omega) only [go_sem,g2,shr57,c6]
      exact ⟨by first | trivial | rfl,by first | trivial | rfl⟩
    ·dsimp only at e9 e1 g2 g3 g4
     subst e9 e1
     simp -dsimp (disch:=(repeat first | rw [nxn] | rw [nxp]);try omega) only [go_sem,g2,g3,g4]
     exact ⟨by first | trivial | rfl,by first | trivial | rfl⟩
  ·have hl0:l=[]:=List.length_eq_zero_iff.1 (by omega)
   subst hl0
   have c0:¬(0:Int)<((0:Nat):Int):=by omega
   have c00:¬(0:Int)<0:=by omega
   have lv0:∀g,evLen Tryz.prog g #[87] v=some (.int .i64 0):=lv
   have c6:(((0:Nat)/144115188075855872:Nat):Int)=0:=by omega
   have z0:=fun h t k=>shr57 h t k 0
   have z1:∀h t k,binA Tryz.prog h .shr t (.int .u64 0) (.int k 57)=some (.int .u64 0):=fun h t k=>z0 h t k
   simp -dsimp (disch:=(repeat first | rw [nxn] | rw [nxp]);try omega) only [go_sem,lv0,c00,ov]
   refine loopK_unroll ?_
   simp -dsimp (disch:=(repeat first | rw [nxn] | rw [nxp]);try omega) only [go_sem,c00,z1]
   exact ⟨by first | trivial | rfl,by first | trivial | rfl⟩
end
theorem neRd (h:AH) (a:Nat):binA Tryz.prog h .neq 145 (.ptr a 0) .nilptr=some (.bool true):=by kernel_rfl
theorem nePl (h:AH) (a:Nat):binA Tryz.prog h .neq 168 (.ptr a 0) .nilptr=some (.bool true):=by kernel_rfl
theorem eqRd (h:AH) (a:Nat):binA Tryz.prog h .eql 145 (.ptr a 0) .nilptr=some (.bool false):=by kernel_rfl
theorem eqPl (h:AH) (a:Nat):binA Tryz.prog h .eql 168 (.ptr a 0) .nilptr=some (.bool false):=by kernel_rfl
structure RdA (R p:Nat) (h:AH) (s:Rd):Prop where
 hR:h.get R=some (.cells [.ptr p 0] true false)
 Rn:R<h.nx
 ne:R≠p
 pn:p<h.nx
 hp:∃bv,h.get p=some (.cells [bv,.int .i64 (s.e:Nat),.bool true] true false)∧Bs h bv s.b∧Nb p bv
 b:∀b∈s.b,b<256
 l:s.b.length≤100000000
theorem RdA.set {R p:Nat} {h h':AH} {s s':Rd} (hr:RdA R p h s) (f:Fx p h h') {bv:AV} (hp:h'.get p=some (.cells [bv,.int .i64 (s'.e:Nat),.bool true] true false)) (hb:Bs h bv s'.b) (hn:Nb p bv) (hl:∀b∈s'.b,b<256) (hlen:s'.b.length≤100000000):RdA R p h' s' :=
 ⟨(f.2 R hr.Rn hr.ne).trans hr.hR,Nat.lt_of_lt_of_le hr.Rn f.1,hr.ne,Nat.lt_of_lt_of_le hr.pn f.1,⟨bv,hp,bsFx hb hn f,hn⟩,hl,hlen⟩
theorem RdA.fr {R p:Nat} {h h':AH} {s:Rd} (hr:RdA R p h s) (f:Fr h h'):RdA R p h' s:=by
 obtain ⟨bv,hp,hb,hn⟩:=hr.hp
 exact ⟨(f.get R hr.Rn).trans hr.hR,Nat.lt_of_lt_of_le hr.Rn f.nx,hr.ne,Nat.lt_of_lt_of_le hr.pn f.nx,⟨bv,(f.get p hr.pn).trans hp,hb.fr f,hn⟩,hr.b,hr.l⟩
theorem RdA.lo {R p n0:Nat} {h h':AH} {s:Rd} (hr:RdA R p h s) (hR:R<n0) (hp:p<n0) (hn:n0≤h'.nx) (ho:∀j,j<n0→h'.get j=h.get j):RdA R p h' s:=by
 obtain ⟨bv,hpv,hb,hnb⟩:=hr.hp
 refine ⟨(ho R hR).trans hr.hR,Nat.lt_of_lt_of_le hR hn,hr.ne,Nat.lt_of_lt_of_le hp hn,⟨bv,(ho p hp).trans hpv,?_,hnb⟩,hr.b,hr.l⟩
 rcases hb with h1 | ⟨id,off,c,cs,o,t,h1,h2,h3,h4⟩
 ·exact .inl h1
 ·have:=hnb _ _ _ _ _ h1
  exact .inr ⟨id,off,c,cs,o,t,h1,(ho id (by omega)).trans h2,by omega,h4⟩
theorem Fx.put2 {p q:Nat} {h h':AH} (f:Fx p h h') (hq:h.nx≤q) (o:AO):Fx p h (h'.put q o):=⟨f.1,fun j hj hne=>(AH.get_put_ne (by omega)).trans (f.2 j hj hne)⟩
theorem ezFx {z p n0:Nat} {h h':AH} {v:AV} {l:List AV} (hb:Ez z n0 h v l) (hp:p<n0) (f:Fx p h h'):Ez z n0 h' v l:=by
 rcases hb with h1 | ⟨id,n,c,tx,h1,h2,h3,h4,h5⟩
 ·exact .inl h1
 ·exact .inr ⟨id,n,c,tx,h1,(f.2 id h3 (by omega)).trans h2,Nat.lt_of_lt_of_le h3 f.1,h4,h5⟩
theorem Fx.draw (p:Nat) (h:AH) (n:Nat) (o:AO):Fx p h (({ tr:=h.tr,nx:=h.nx+n }:AH).put p o):=⟨by show h.nx≤h.nx+n;omega,fun j hj hne=>(AH.get_put_ne hne).trans rfl⟩
theorem Fx.put (p:Nat) (h:AH) (o:AO):Fx p h (h.put p o):=⟨Nat.le_refl _,fun j hj hne=>AH.get_put_ne hne⟩
theorem Fx.refl (p:Nat) (h:AH):Fx p h h:=⟨Nat.le_refl _,fun _ _ _=>rfl⟩
theorem bldPl0:evBuild Tryz.prog 170 [(0,.nilsl),(2,.bool true)]=some (.agg [.nilsl,.int .i64 0,.bool true]):=by kernel_rfl
theorem bldPl (id o n z:Nat) (c:Option Nat):evBuild Tryz.prog 170 [(0,.sl id o n z c),(2,.bool true)]=some (.agg [.sl id o n z c,.int .i64 0,.bool true]):=by kernel_rfl
theorem bldRd (a:Nat):evBuild Tryz.prog 172 [(0,.ptr a 0)]=some (.agg [.ptr a 0]):=by kernel_rfl
section
variable {S : Sums}
theorem rightR (hS:Tr2 S) {R p:Nat} {h:AH} {s:Rd} (hr:RdA R p h s):RnC Tryz.prog S 136 [.ptr R 0] h fun r h'=>r=.bool (decide (s.e=0))∧h'=h:=by
 refine RnC.enter' Tryz.f136 _ 22 [.tmp 2] (hS.nr _ _ _ (by simp)) bd136 Tryz.func136 rfl rfl rfl ?_
 obtain ⟨bv,hp,hb,hn⟩:=hr.hp
 have hR:=hr.hR
 by_cases he:s.e=0
 ·have c1:((s.e:Nat):Int)=0:=by omega
  simp -dsimp only [go_sem,neRd,nePl,hR,hp,c1]
  simp [he]
 ·have c1:¬((s.e:Nat):Int)=0:=by omega
  simp -dsimp only [go_sem,neRd,nePl,hR,hp,c1]
  simp [he]
theorem failR (hS:Tr2 S) {R p:Nat} {h:AH} {s:Rd} {e:Nat} (hr:RdA R p h s):RnC Tryz.prog S 138 [.ptr p 0,.int .i64 (e:Nat)] h fun r h'=>RdA R p h' ⟨s.b,e⟩∧Fx p h h':=by
 refine RnC.enter' Tryz.f138 _ 8 [] (hS.nr _ _ _ (by simp)) bd138 Tryz.func138 rfl rfl rfl ?_
 obtain ⟨bv,hp,hb,hn⟩:=hr.hp
 simp -dsimp only [go_sem,hp]
 exact ⟨hr.set (Fx.put _ _ _) (AH.get_put_eq rfl) hb hn hr.b hr.l,Fx.put _ _ _⟩
theorem newR (hS:Tr2 S) {h:AH} {v:AV} {l:List Nat} (hv:Bs h v l) (hb:∀b∈l,b<256) (hl:l.length≤100000000):RnC Tryz.prog S 104 [v] h fun r h'=>∃R p,r=.ptr R 0∧RdA R p h' ⟨l,0⟩∧h.nx≤R∧h.nx≤p∧Fr h h':=by
 refine RnC.enter' Tryz.f104 _ 9 [.tmp 2] (hS.nr _ _ _ (by simp)) bd104 Tryz.func104 rfl rfl rfl ?_
 have ov:=(bsOne hv).1
 simp -dsimp only [go_sem,ov]
 refine callK_of (cloB hS.toTw hv (by omega)) ?_
 rintro w g ⟨f1,hw⟩
 have fin:Nb g.nx w→RdA (g.nx+1) g.nx ((g.new (.cells [w,.int .i64 0,.bool true] true false)).new (.cells [.ptr g.nx 0] true false)) ⟨l,0⟩:=fun hn =>
  have f2:Fr g ((g.new (.cells [w,.int .i64 0,.bool true] true false)).new (.cells [.ptr g.nx 0] true false)):=(Fr.new _ _).news _
  ⟨AH.get_new_eq rfl,Nat.lt_succ_self _,by omega,by show g.nx<g.nx+1+1;omega,⟨w,(AH.get_new_ne (by simp)).trans (AH.get_new_eq rfl),hw.bs.fr f2,hn⟩,hb,hl⟩
 have hnb:Nb g.nx w:=by
  rcases hw with ⟨rfl,_⟩ | ⟨id,n,c,tx,rfl,h2,h3,h4,h5⟩
  ·exact fun _ _ _ _ _ hh=>by cases hh
  ·exact fun _ _ _ _ _ hh=>by cases hh;omega
 have fin':=fin hnb
 rcases hw.shape with rfl | ⟨i5,n5,c5,rfl⟩
 all_goals
  simp -dsimp only [go_sem,bldPl,bldPl0,bldRd]
  exact ⟨_,_,rfl,fin',by have:=f1.nx;show h.nx≤g.nx+1;omega,f1.nx,f1.trans ((Fr.new _ _).news _)⟩
theorem rnumC (hS:Tr2 S) {R p:Nat} {h:AH} {s:Rd} (hr:RdA R p h s):RnC Tryz.prog S 105 [.ptr R 0] h fun r h'=>r=.int .u64 (s.num.1:Nat)∧RdA R p h' s.num.2∧Fx p h h':=by
 obtain ⟨bv,hp,hb,hn⟩:=hr.hp
 have hR:=hr.hR
 have nr:=numR hS hb hr.b (by have:=hr.l;omega)
 have ov:=(bsOne hb).1
 rcases hrd:rdN s.b with ⟨x,n,e⟩
 rw [hrd] at nr
 dsimp only at nr
 by_cases he:s.e=0
 ·by_cases hx:e=0
  ·have hnum:s.num=(x,⟨s.b.drop n,0⟩):=by unfold Rd.num;rw [hrd,if_neg (fun hh=>hh he),if_neg (fun hh=>hh hx)]
   have hle:n≤s.b.length:=by have:=(rdN_len (l:=s.b) (by rw [hrd];exact hx)).2;rw [hrd] at this;exact this
   rw [hnum]
   refine RnC.enter' Tryz.f105 _ 45 [.tmp 2] (hS.nr _ _ _ (by simp)) bd105 Tryz.func105 rfl rfl rfl ?_
   simp -dsimp only [go_sem]
   refine callK_of (rightR hS hr) ?_
   rintro w g ⟨rfl,rfl⟩
   simp -dsimp only [go_sem,he,hR,hp,ov]
   refine callK_of nr ?_
   rintro w g ⟨rfl,rfl⟩
   have c2:((e:Nat):Int)=0:=by omega
   simp -dsimp only [go_sem,c2]
   refine syDraw.keepN 0 (fun _=>True) (by kernel_rfl) (by kernel_rfl) rfl ?_
   have hp0:=hp
   rw [he] at hp0
   obtain ⟨v',hs',hb',hn'⟩:=bsFrom hb hn hle
   have hl':(s.b.drop n).length≤100000000:=by have:=hr.l;rw [List.length_drop];omega
   rcases (bsSh hb') with rfl | ⟨i5,o5,n5,z5,c5,rfl⟩
   all_goals
    simp -dsimp only [go_sem,hR,hp0,hs',ov]
    exact ⟨by first | trivial | rfl,hr.set (Fx.draw _ _ _ _) (AH.get_put_eq rfl) hb' hn' (fun b hb2=>hr.b b (List.mem_of_mem_drop hb2)) hl',Fx.draw _ _ _ _⟩
  ·have hnum:s.num=(0,⟨s.b,e⟩):=by unfold Rd.num;rw [hrd,if_neg (fun hh=>hh he),if_pos hx]
   rw [hnum]
   refine RnC.enter' Tryz.f105 _ 45 [.tmp 2] (hS.nr _ _ _ (by simp)) bd105 Tryz.func105 rfl rfl rfl ?_
   simp -dsimp only [go_sem]
   refine callK_of (rightR hS hr) ?_
   rintro w g ⟨rfl,rfl⟩
   simp -dsimp only [go_sem,he,hR,hp,ov]
   refine callK_of nr ?_
   rintro w g ⟨rfl,rfl⟩
   have c2:¬((e:Nat):Int)=0:=by omega
   simp -dsimp only [go_sem,c2,hR]
   refine callK_of (failR hS hr) ?_
   rintro w g2 ⟨k1,k2⟩
   try simp -dsimp only [go_sem]
   exact ⟨by first | trivial | rfl,k1,k2⟩
 ·have hnum:s.num=(0,s):=Rd.num_err he
  rw [hnum]
  refine RnC.enter' Tryz.f105 _ 45 [.tmp 2] (hS.nr _ _ _ (by simp)) bd105 Tryz.func105 rfl rfl rfl ?_
  simp -dsimp only [go_sem]
  refine callK_of (rightR hS hr) ?_
  rintro w g ⟨rfl,rfl⟩
  simp -dsimp only [go_sem,he]
  exact ⟨by first | trivial | rfl,hr,Fx.refl _ _⟩
end
section
variable {S : Sums}
theorem rcountC (hS:Tr2 S) {R p:Nat} {h:AH} {s:Rd} {most:Nat} (hr:RdA R p h s) (hm:most≤1000000000000):RnC Tryz.prog S 106 [.ptr R 0,.int .i64 (most:Nat)] h fun r h'=>r=.int .i64 ((s.count most).1:Nat)∧RdA R p h' (s.count most).2∧Fx p h h':=by
 obtain ⟨bv,hp,hb,hn⟩:=hr.hp
 have hR:=hr.hR
 have nr:=numR hS hb hr.b (by have:=hr.l;omega)
 have ov:=(bsOne hb).1
 have mx:max (0:Int) ((most:Nat):Int)=((most:Nat):Int):=by omega
 have cm:=fun h=>cv64 h most (by omega)
 rcases hrd:rdN s.b with ⟨x,n,e⟩
 rw [hrd] at nr
 dsimp only at nr
 by_cases he:s.e=0
 ·by_cases hx:e=0
  ·by_cases hq:most<x
   ·have hcnt:s.count most=(0,⟨s.b,3⟩):=by unfold Rd.count;rw [hrd,if_neg (fun hh=>hh he),if_neg (fun hh=>hh hx),if_pos hq]
    rw [hcnt]
    refine RnC.enter' Tryz.f106 _ 57 [.tmp 4] (hS.nr _ _ _ (by simp)) bd106 Tryz.func106 rfl rfl rfl ?_
    simp -dsimp (disch:=(repeat first | rw [nxn] | rw [nxp]);try omega) only [go_sem]
    refine callK_of (rightR hS hr) ?_
    rintro w g ⟨rfl,rfl⟩
    simp -dsimp (disch:=(repeat first | rw [nxn] | rw [nxp]);try omega) only [go_sem,he,hR,hp,ov]
    refine callK_of nr ?_
    rintro w g ⟨rfl,rfl⟩
    have c2:((e:Nat):Int)=0:=by omega
    have c3:((most:Nat):Int)<((x:Nat):Int):=by omega
    simp -dsimp (disch:=(repeat first | rw [nxn] | rw [nxp]);try omega) only [go_sem,c2,c3,mx,cm,hR]
    refine callK_of (failR hS (e:=3) hr) ?_
    rintro w g2 ⟨k1,k2⟩
    try simp -dsimp (disch:=(repeat first | rw [nxn] | rw [nxp]);try omega) only [go_sem]
    exact ⟨by first | trivial | rfl,k1,k2⟩
   ·have hcnt:s.count most=(x,⟨s.b.drop n,0⟩):=by unfold Rd.count;rw [hrd,if_neg (fun hh=>hh he),if_neg (fun hh=>hh hx),if_neg hq]
    have hle:n≤s.b.length:=by have:=(rdN_len (l:=s.b) (by rw [hrd];exact hx)).2;rw [hrd] at this;exact this
    rw [hcnt]
    refine RnC.enter' Tryz.f106 _ 57 [.tmp 4] (hS.nr _ _ _ (by simp)) bd106 Tryz.func106 rfl rfl rfl ?_
    simp -dsimp (disch:=(repeat first | rw [nxn] | rw [nxp]);try omega) only [go_sem]
    refine callK_of (rightR hS hr) ?_
    rintro w g ⟨rfl,rfl⟩
    simp -dsimp (disch:=(repeat first | rw [nxn] | rw [nxp]);try omega) only [go_sem,he,hR,hp,ov]
    refine callK_of nr ?_
    rintro w g ⟨rfl,rfl⟩
    have c2:((e:Nat):Int)=0:=by omega
    have c3:¬((most:Nat):Int)<((x:Nat):Int):=by omega
    have cx:=fun h=>cvUI h x (by omega)
    simp -dsimp (disch:=(repeat first | rw [nxn] | rw [nxp]);try omega) only [go_sem,c2,c3,mx,cm]
    refine syDraw.keepN 0 (fun _=>True) (by kernel_rfl) (by kernel_rfl) rfl ?_
    have hp0:=hp
    rw [he] at hp0
    obtain ⟨v',hs',hb',hn'⟩:=bsFrom hb hn hle
    have hl':(s.b.drop n).length≤100000000:=by have:=hr.l;rw [List.length_drop];omega
    rcases (bsSh hb') with rfl | ⟨i5,o5,n5,z5,c5,rfl⟩
    all_goals
     simp (maxSteps:=1000000) -dsimp (disch:=(repeat first | rw [nxn] | rw [nxp]);try omega) only [go_sem,hR,hp0,hs',ov,cx]
     exact ⟨by first | trivial | rfl,hr.set (Fx.draw _ _ _ _) (AH.get_put_eq rfl) hb' hn' (fun b hb2=>hr.b b (List.mem_of_mem_drop hb2)) hl',Fx.draw _ _ _ _⟩
  ·have hcnt:s.count most=(0,⟨s.b,e⟩):=by unfold Rd.count;rw [hrd,if_neg (fun hh=>hh he),if_pos hx]
   rw [hcnt]
   refine RnC.enter' Tryz.f106 _ 57 [.tmp 4] (hS.nr _ _ _ (by simp)) bd106 Tryz.func106 rfl rfl rfl ?_
   simp -dsimp (disch:=(repeat first | rw [nxn] | rw [nxp]);try omega) only [go_sem]
   refine callK_of (rightR hS hr) ?_
   rintro w g ⟨rfl,rfl⟩
   simp -dsimp (disch:=(repeat first | rw [nxn] | rw [nxp]);try omega) only [go_sem,he,hR,hp,ov]
   refine callK_of nr ?_
   rintro w g ⟨rfl,rfl⟩
   have c2:¬((e:Nat):Int)=0:=by omega
   simp -dsimp (disch:=(repeat first | rw [nxn] | rw [nxp]);try omega) only [go_sem,c2,hR]
   refine callK_of (failR hS hr) ?_
   rintro w g2 ⟨k1,k2⟩
   try simp -dsimp (disch:=(repeat first | rw [nxn] | rw [nxp]);try omega) only [go_sem]
   exact ⟨by first | trivial | rfl,k1,k2⟩
 ·have hcnt:s.count most=(0,s):=by unfold Rd.count;rw [if_pos he]
  rw [hcnt]
  refine RnC.enter' Tryz.f106 _ 57 [.tmp 4] (hS.nr _ _ _ (by simp)) bd106 Tryz.func106 rfl rfl rfl ?_
  simp -dsimp (disch:=(repeat first | rw [nxn] | rw [nxp]);try omega) only [go_sem]
  refine callK_of (rightR hS hr) ?_
  rintro w g ⟨rfl,rfl⟩
  simp -dsimp (disch:=(repeat first | rw [nxn] | rw [nxp]);try omega) only [go_sem,he]
  exact ⟨by first | trivial | rfl,hr,Fx.refl _ _⟩
theorem rpieceC (hS:Tr2 S) {R p:Nat} {h:AH} {s:Rd} (hr:RdA R p h s):RnC Tryz.prog S 108 [.ptr R 0] h fun r h'=>r=.str s.piece.1∧RdA R p h' s.piece.2∧Fx p h h':=by
 obtain ⟨bv,hp,hb,hn⟩:=hr.hp
 have hR:=hr.hR
 have nr:=numR hS hb hr.b (by have:=hr.l;omega)
 have ov:=(bsOne hb).1
 have lv:=(bsLn hb)
 have hlen:=hr.l
 rcases hrd:rdN s.b with ⟨x,n,e⟩
 rw [hrd] at nr
 dsimp only at nr
 have start:∀ {Q:AV→AH→Prop},(s.e=0→RnC Tryz.prog S 108 [.ptr R 0] h Q)→(s.e≠0→RnC Tryz.prog S 108 [.ptr R 0] h Q)→RnC Tryz.prog S 108 [.ptr R 0] h Q:=fun a b=>by
  by_cases he:s.e=0
  ·exact a he
  ·exact b he
 refine start (fun he=>?_) (fun he=>?_)
 ·by_cases hx:e=0
  ·have hle:n≤s.b.length:=by have:=(rdN_len (l:=s.b) (by rw [hrd];exact hx)).2;rw [hrd] at this;exact this
   have c2:((e:Nat):Int)=0:=by omega
   by_cases hq:1048576<x
   ·have hpc:s.piece=([],⟨s.b,3⟩):=by unfold Rd.piece;rw [hrd,if_neg (fun hh=>hh he),if_neg (fun hh=>hh hx),if_pos hq]
    rw [hpc]
    refine RnC.enter' Tryz.f108 _ 83 [.tmp 2] (hS.nr _ _ _ (by simp)) bd108 Tryz.func108 rfl rfl rfl ?_
    simp -dsimp (disch:=(repeat first | rw [nxn] | rw [nxp]);try omega) only [go_sem]
    refine callK_of (rightR hS hr) ?_
    rintro w g ⟨rfl,rfl⟩
    simp -dsimp (disch:=(repeat first | rw [nxn] | rw [nxp]);try omega) only [go_sem,he,hR,hp,ov]
    refine callK_of nr ?_
    rintro w g ⟨rfl,rfl⟩
    have c3:(1048576:Int)<((x:Nat):Int):=by omega
    simp -dsimp (disch:=(repeat first | rw [nxn] | rw [nxp]);try omega) only [go_sem,c2,c3,hR]
    refine callK_of (failR hS (e:=3) hr) ?_
    rintro w g2 ⟨k1,k2⟩
    try simp -dsimp (disch:=(repeat first | rw [nxn] | rw [nxp]);try omega) only [go_sem]
    exact ⟨by first | trivial | rfl,k1,k2⟩
   ·have c3:¬(1048576:Int)<((x:Nat):Int):=by omega
    have sb:((s.b.length:Nat):Int)-((n:Nat):Int)=((s.b.length-n:Nat):Int):=by omega
    have c6:=fun h=>cv64 h (s.b.length-n) (by omega)
    by_cases hq2:s.b.length-n<x
    ·have hpc:s.piece=([],⟨s.b,5⟩):=by unfold Rd.piece;rw [hrd,if_neg (fun hh=>hh he),if_neg (fun hh=>hh hx),if_neg hq,if_pos hq2]
     rw [hpc]
     refine RnC.enter' Tryz.f108 _ 83 [.tmp 2] (hS.nr _ _ _ (by simp)) bd108 Tryz.func108 rfl rfl rfl ?_
     simp -dsimp (disch:=(repeat first | rw [nxn] | rw [nxp]);try omega) only [go_sem]
     refine callK_of (rightR hS hr) ?_
     rintro w g ⟨rfl,rfl⟩
     simp -dsimp (disch:=(repeat first | rw [nxn] | rw [nxp]);try omega) only [go_sem,he,hR,hp,ov]
     refine callK_of nr ?_
     rintro w g ⟨rfl,rfl⟩
     have c4:((s.b.length-n:Nat):Int)<((x:Nat):Int):=by omega
     simp (maxSteps:=1000000) -dsimp (disch:=(repeat first | rw [nxn] | rw [nxp]);try omega) only [go_sem,c2,c3,c4,hR,hp,ov,lv,sb,c6]
     refine callK_of (failR hS (e:=5) hr) ?_
     rintro w g2 ⟨k1,k2⟩
     try simp -dsimp (disch:=(repeat first | rw [nxn] | rw [nxp]);try omega) only [go_sem]
     exact ⟨by first | trivial | rfl,k1,k2⟩
    ·have hpc:s.piece=((s.b.drop n).take x,⟨s.b.drop (n+x),0⟩):=by unfold Rd.piece;rw [hrd,if_neg (fun hh=>hh he),if_neg (fun hh=>hh hx),if_neg hq,if_neg hq2]
     rw [hpc]
     refine RnC.enter' Tryz.f108 _ 83 [.tmp 2] (hS.nr _ _ _ (by simp)) bd108 Tryz.func108 rfl rfl rfl ?_
     simp -dsimp (disch:=(repeat first | rw [nxn] | rw [nxp]);try omega) only [go_sem]
     refine callK_of (rightR hS hr) ?_
     rintro w g ⟨rfl,rfl⟩
     simp -dsimp (disch:=(repeat first | rw [nxn] | rw [nxp]);try omega) only [go_sem,he,hR,hp,ov]
     refine callK_of nr ?_
     rintro w g ⟨rfl,rfl⟩
     have c4:¬((s.b.length-n:Nat):Int)<((x:Nat):Int):=by omega
     have cx:=fun h=>cvUI h x (by omega)
     have ad:((n:Nat):Int)+((x:Nat):Int)=((n+x:Nat):Int):=by omega
     obtain ⟨v2,hs2,hb2,_,ov2⟩:=hb.slice_mid Tryz.underlying87 tz5 (lo:=n) (hi:=n+x) (by omega) (by omega)
     have tx:=hb2.text (d:=9) Tryz.underlying87 Tryz.underlying5 Tryz.underlying9 (fun b hb3=>hr.b b (List.mem_of_mem_take (List.mem_of_mem_drop hb3)))
     have et:(s.b.take (n+x)).drop n=(s.b.drop n).take x:=by rw [List.drop_take];congr 1;omega
     rw [et] at tx
     simp (maxSteps:=1000000) -dsimp (disch:=(repeat first | rw [nxn] | rw [nxp]);try omega) only [go_sem,c2,c3,c4,hR,hp,ov,lv,sb,c6,cx,ad,hs2,ov2,tx]
     refine syDraw.keepN 0 (fun _=>True) (by kernel_rfl) (by kernel_rfl) rfl ?_
     have hp0:=hp
     rw [he] at hp0
     obtain ⟨v',hs',hb',hn'⟩:=bsFrom hb hn (show n+x≤s.b.length by omega)
     have hl':(s.b.drop (n+x)).length≤100000000:=by rw [List.length_drop];omega
     rcases (bsSh hb') with rfl | ⟨i5,o5,n5,z5,c5,rfl⟩
     all_goals
      simp (maxSteps:=1000000) -dsimp (disch:=(repeat first | rw [nxn] | rw [nxp]);try omega) only [go_sem,hR,hp0,hs',ov,cx,ad]
      exact ⟨by first | trivial | rfl,hr.set (Fx.draw _ _ _ _) (AH.get_put_eq rfl) hb' hn' (fun b hb2=>hr.b b (List.mem_of_mem_drop hb2)) hl',Fx.draw _ _ _ _⟩
  ·have hpc:s.piece=([],⟨s.b,e⟩):=by unfold Rd.piece;rw [hrd,if_neg (fun hh=>hh he),if_pos hx]
   rw [hpc]
   refine RnC.enter' Tryz.f108 _ 83 [.tmp 2] (hS.nr _ _ _ (by simp)) bd108 Tryz.func108 rfl rfl rfl ?_
   simp -dsimp (disch:=(repeat first | rw [nxn] | rw [nxp]);try omega) only [go_sem]
   refine callK_of (rightR hS hr) ?_
   rintro w g ⟨rfl,rfl⟩
   simp -dsimp (disch:=(repeat first | rw [nxn] | rw [nxp]);try omega) only [go_sem,he,hR,hp,ov]
   refine callK_of nr ?_
   rintro w g ⟨rfl,rfl⟩
   have c2:¬((e:Nat):Int)=0:=by omega
   simp -dsimp (disch:=(repeat first | rw [nxn] | rw [nxp]);try omega) only [go_sem,c2,hR]
   refine callK_of (failR hS hr) ?_
   rintro w g2 ⟨k1,k2⟩
   try simp -dsimp (disch:=(repeat first | rw [nxn] | rw [nxp]);try omega) only [go_sem]
   exact ⟨by first | trivial | rfl,k1,k2⟩
 ·rw [Rd.piece_err he]
  refine RnC.enter' Tryz.f108 _ 83 [.tmp 2] (hS.nr _ _ _ (by simp)) bd108 Tryz.func108 rfl rfl rfl ?_
  simp -dsimp (disch:=(repeat first | rw [nxn] | rw [nxp]);try omega) only [go_sem]
  refine callK_of (rightR hS hr) ?_
  rintro w g ⟨rfl,rfl⟩
  simp -dsimp (disch:=(repeat first | rw [nxn] | rw [nxp]);try omega) only [go_sem,he]
  exact ⟨by first | trivial | rfl,hr,Fx.refl _ _⟩
theorem rerrC (hS:Tr2 S) {R p:Nat} {h:AH} {s:Rd} (hr:RdA R p h s):RnC Tryz.prog S 107 [.ptr R 0] h fun r h'=>r=.int .i64 (s.e:Nat)∧h'=h:=by
 refine RnC.enter' Tryz.f107 _ 19 [.tmp 2] (hS.nr _ _ _ (by simp)) bd107 Tryz.func107 rfl rfl rfl ?_
 obtain ⟨bv,hp,hb,hn⟩:=hr.hp
 have hR:=hr.hR
 simp -dsimp (disch:=(repeat first | rw [nxn] | rw [nxp]);try omega) only [go_sem,eqRd,eqPl,hR,hp]
 exact ⟨by first | trivial | rfl,by first | trivial | rfl⟩
theorem pleftC (hS:Tr2 S) {R p:Nat} {h:AH} {s:Rd} (hr:RdA R p h s):RnC Tryz.prog S 160 [.ptr p 0] h fun r h'=>r=.int .i64 (s.b.length:Nat)∧h'=h:=by
 refine RnC.enter' Tryz.f160 _ 10 [.tmp 2] (hS.nr _ _ _ (by simp)) bd160 Tryz.func160 rfl rfl rfl ?_
 obtain ⟨bv,hp,hb,hn⟩:=hr.hp
 have ov:=(bsOne hb).1
 have lv:=(bsLn hb)
 simp -dsimp (disch:=(repeat first | rw [nxn] | rw [nxp]);try omega) only [go_sem,eqPl,hp,ov,lv]
 exact ⟨by first | trivial | rfl,by first | trivial | rfl⟩
theorem rleftC (hS:Tr2 S) {R p:Nat} {h:AH} {s:Rd} (hr:RdA R p h s):RnC Tryz.prog S 139 [.ptr R 0] h fun r h'=>r=.int .i64 (s.b.length:Nat)∧h'=h:=by
 refine RnC.enter' Tryz.f139 _ 10 [.tmp 2] (hS.nr _ _ _ (by simp)) bd139 Tryz.func139 rfl rfl rfl ?_
 have hR:=hr.hR
 simp -dsimp (disch:=(repeat first | rw [nxn] | rw [nxp]);try omega) only [go_sem,eqRd,hR]
 refine callK_of (pleftC hS hr) ?_
 rintro w g ⟨rfl,rfl⟩
 simp -dsimp (disch:=(repeat first | rw [nxn] | rw [nxp]);try omega) only [go_sem]
 exact ⟨by first | trivial | rfl,by first | trivial | rfl⟩
theorem rendC (hS:Tr2 S) {R p:Nat} {h:AH} {s:Rd} (hr:RdA R p h s):RnC Tryz.prog S 109 [.ptr R 0] h fun r h'=>(∃k:Nat,r=.int .i64 (k:Nat)∧(k=0↔s.e=0∧s.b=[]))∧h'=h:=by
 refine RnC.enter' Tryz.f109 _ 12 [.tmp 2] (hS.nr _ _ _ (by simp)) bd109 Tryz.func109 rfl rfl rfl ?_
 simp -dsimp (disch:=(repeat first | rw [nxn] | rw [nxp]);try omega) only [go_sem]
 refine callK_of (rerrC hS hr) ?_
 rintro w g ⟨rfl,rfl⟩
 by_cases he:s.e=0
 ·have c1:((s.e:Nat):Int)=0:=by omega
  simp -dsimp (disch:=(repeat first | rw [nxn] | rw [nxp]);try omega) only [go_sem,c1]
  refine callK_of (rleftC hS hr) ?_
  rintro w g ⟨rfl,rfl⟩
  by_cases hl:s.b=[]
  ·have c2:¬(0:Int)<((s.b.length:Nat):Int):=by rw [hl];decide
   simp -dsimp (disch:=(repeat first | rw [nxn] | rw [nxp]);try omega) only [go_sem,c2]
   exact ⟨⟨0,rfl,by simp [he,hl]⟩,by first | trivial | rfl⟩
  ·have c2:(0:Int)<((s.b.length:Nat):Int):=by have:=List.length_pos_iff.2 hl;omega
   simp -dsimp (disch:=(repeat first | rw [nxn] | rw [nxp]);try omega) only [go_sem,c2]
   exact ⟨⟨4,rfl,by simp [hl]⟩,by first | trivial | rfl⟩
 ·have c1:¬((s.e:Nat):Int)=0:=by omega
  simp -dsimp (disch:=(repeat first | rw [nxn] | rw [nxp]);try omega) only [go_sem,c1]
  exact ⟨⟨s.e,rfl,by simp [he]⟩,by first | trivial | rfl⟩
end
end Go.Proofs.YtaooopaemphfjaaGreatDoor.tbl
end