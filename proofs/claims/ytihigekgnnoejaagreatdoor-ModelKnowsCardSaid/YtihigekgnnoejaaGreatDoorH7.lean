/- Texts joined: MIz, MJa, MJb, MJc, MJd. -/
import Derived.Test.YtihigekgnnoejaaGreatDoorH4
set_option maxRecDepth 100000
set_option linter.unusedVariables false
set_option linter.unusedSimpArgs false
set_option maxHeartbeats 8000000
section
namespace Go.Proofs.YtihigekgnnoejaaGreatDoor.mdl
open Go Go.Abs Go.Proofs Go.Proofs.YtihigekgnnoejaaGreatDoor.tre
structure Nv (S:Sums):Prop extends Nf S where
 nv9:∀f args h,f∈[144,160,127,128,129,145,130,146,161,172,101,69,100]→S f args h=none
 /-- To show of the program, by the shelf's contracts: Atoi reads no table at so few digits; Itoa reads one from 100 on. -/
 atoi:∀(s:List Nat) (h:AH),1≤s.length→s.length≤3→(∀x∈s,48≤x∧x≤57)→∃n:Nat,n<1000∧S 147 [.str s] h=some (.tup [.int .i64 (n:Nat),.nilif],h)
 itoa:∀(n:Nat) (h:AH),n<1000→∃s:List Nat,s.length≤3∧S 148 [.int .i64 (n:Nat)] h=some (.str s,h)
section
variable {S : Sums}
theorem lastC (hS:Nv S) {h:AH} (s:List Nat) (b:Int) (hl:s.length≤1000):RnC Tryz.prog S 144 [.str s,.int .u8 b] h fun r h'=>(r=.int .i64 (-1)∨∃k,k<s.length∧r=.int .i64 (k:Nat))∧h'=h:=by
 refine RnC.enter' Tryz.f144 _ 8 [.tmp 4] (hS.nv9 _ _ _ (by simp)) bd144 Tryz.func144 rfl rfl rfl ?_
 simp -dsimp only [go_sem,evLen]
 refine callK_of (Q:=fun r h'=>(r=.int .i64 (-1)∨∃k,k<s.length∧r=.int .i64 (k:Nat))∧h'=h) ?_ ?_
 ·refine RnC.enter' Tryz.f160 _ 19 [.tmp 4] (hS.nv9 _ _ _ (by simp)) bd160 Tryz.func160 rfl rfl rfl ?_
  simp -dsimp only [go_sem,evLen]
  refine loopK_of (RnL.rounds (Q:=fun ex u=>u.d=[]∧u.h=h∧(ex=.exit 0∨ex=.ret∧∃k,k<s.length∧u.t.get 4=some (.int .i64 (k:Nat))))
   (fun k u=>u.d=[]∧u.h=h∧k≤s.length∧u.t.get 0=some (.str s)∧u.t.get 1=some (.int .u8 b)∧u.t.get 5=some (.int .i64 ((k:Nat)-1))) ?_ s.length ?_) ?_
  ·rintro k ⟨tt,g,d⟩ ⟨e2,e1,e3,t0,t1,t5⟩
   dsimp only at e1 e2 t0 t1 t5
   subst e1 e2
   rcases k with-| k
   ·have c:¬(0:Int)≤((0:Nat):Int)-1:=by omega
    simp -dsimp only [go_sem,evLen,t0,t1,t5,c]
    exact ⟨trivial,trivial,.inl trivial⟩
   ·have e5:(((k+1:Nat)):Int)-1=((k:Nat):Int):=by omega
    have c:(0:Int)≤((k:Nat):Int):=by omega
    obtain ⟨a,ha⟩:∃a,s[k]? = some a:=⟨_,List.getElem?_eq_getElem (by omega)⟩
    have ix:=ixS (k:=.i64) Tryz.underlying9 ha
    rw [e5] at t5
    by_cases c2:(a:Int)=b
    ·simp -dsimp only [go_sem,evLen,t0,t1,t5,c,ix,c2]
     exact ⟨trivial,trivial,.inr ⟨trivial,k,by omega,rfl⟩⟩
    ·simp -dsimp (disch:=repeat first|rw [nxn]|rw [nxp]|omega) only [go_sem,evLen,t0,t1,t5,c,ix,c2]
     exact ⟨k,by omega,trivial,trivial,by omega,trivial,trivial,rfl⟩
  ·simp -dsimp (disch:=repeat first|rw [nxn]|rw [nxp]|omega) only [go_sem,evLen]
   exact ⟨trivial,trivial,Nat.le_refl _,trivial,trivial,trivial⟩
  ·rintro ex ⟨tt,g,d⟩ ⟨rfl,rfl,rfl | ⟨rfl,k,hk,t4⟩⟩
   ·simp -dsimp only [go_sem,evLen]
    exact ⟨.inl trivial,trivial⟩
   ·dsimp only at t4
    simp -dsimp only [go_sem,evLen,t4]
    exact ⟨.inr ⟨k,hk,rfl⟩,trivial⟩
 ·rintro r g ⟨hr,rfl⟩
  obtain ⟨n,rfl⟩:∃n,r=.int .i64 n:=by rcases hr with rfl | ⟨k,-,rfl⟩ <;> exact ⟨_,rfl⟩
  simp -dsimp only [go_sem,evLen]
  exact ⟨hr,trivial⟩
theorem splitC (hS:Nv S) {h:AH} (s:List Nat) (hl:s.length≤1000):RnC Tryz.prog S 127 [.str s] h fun r h'=>(∃a b,a.length≤s.length∧b.length≤s.length∧r=.tup [.str a,.str b])∧Fr h h':=by
 refine RnC.enter' Tryz.f127 _ 17 [.tmp 2,.tmp 3] (hS.nv9 _ _ _ (by simp)) bd127 Tryz.func127 rfl rfl rfl ?_
 simp -dsimp only [go_sem,evLen]
 refine callK_of (lastC hS s 47 hl) ?_
 rintro r g ⟨rfl | ⟨k,hk,rfl⟩,rfl⟩
 ·simp -dsimp only [go_sem,evLen]
  exact ⟨⟨[],s,by simp,Nat.le_refl _,rfl⟩,Fr.refl _⟩
 ·have c:¬((k:Nat):Int)<0:=by omega
  simp -dsimp (disch:=repeat first|rw [nxn]|rw [nxp]|omega) only [go_sem,evLen,c]
  refine syDraw.keep (fun _=>False) (by kernel_rfl) (by kernel_rfl) ?_
  have s1:=fun g'=>slSto (k:=.i64) Tryz.underlying177 g' (Nat.le_of_lt hk)
  have s2:=fun g'=>slSfr (k:=.i64) Tryz.underlying177 g' (show k+1≤s.length from hk)
  have e5:((k:Nat):Int)+1=((k+1:Nat):Int):=by omega
  simp -dsimp (disch:=repeat first|rw [nxn]|rw [nxp]|omega) only [go_sem,evLen,s1,s2,e5,true_and,true_or,or_true,implies_true,svi,svb,svs,svp]
  exact ⟨⟨_,_,by simp;omega,by simp,rfl⟩,(Fr.refl g).more _ (by omega)⟩
theorem endC (hS:Nv S) {h:AH} (s:List Nat) (hl:s.length≤1000):RnC Tryz.prog S 128 [.str s] h fun r h'=>(∃a b,a.length≤s.length∧b.length≤s.length∧r=.tup [.str a,.str b])∧Fr h h':=by
 refine RnC.enter' Tryz.f128 _ 23 [.tmp 2,.tmp 3] (hS.nv9 _ _ _ (by simp)) bd128 Tryz.func128 rfl rfl rfl ?_
 simp -dsimp only [go_sem,evLen]
 refine callK_of (splitC hS s hl) ?_
 rintro r g ⟨⟨a,b,ha,hb,rfl⟩,f1⟩
 simp -dsimp only [go_sem,evLen]
 refine callK_of (lastC hS b 46 (by omega)) ?_
 rintro r g2 ⟨rfl | ⟨k,hk,rfl⟩,rfl⟩
 ·simp -dsimp only [go_sem,evLen]
  exact ⟨⟨b,[],hb,by simp,rfl⟩,f1⟩
 ·have c:¬((k:Nat):Int)<0:=by omega
  simp -dsimp only [go_sem,evLen,c]
  refine syDraw.keep (fun _=>False) (by kernel_rfl) (by kernel_rfl) ?_
  have s1:=fun g'=>slSto (k:=.i64) Tryz.underlying9 g' (Nat.le_of_lt hk)
  have s2:=fun g'=>slSfr (k:=.i64) Tryz.underlying9 g' (Nat.le_of_lt hk)
  simp -dsimp only [go_sem,evLen,s1,s2,true_and,true_or,or_true,implies_true,svi,svb,svs,svp]
  exact ⟨⟨_,_,by simp;omega,by simp;omega,rfl⟩,f1.more _ (by omega)⟩
theorem digitsC (hS:Nv S) {h:AH} (s:List Nat) (hl:s.length≤1000):RnC Tryz.prog S 145 [.str s] h fun r h'=>(∃n,n≤s.length∧(∀x∈s.drop (s.length-n),48≤x∧x≤57)∧r=.int .i64 (n:Nat))∧h'=h:=by
 refine RnC.enter' Tryz.f145 _ 26 [.tmp 2] (hS.nv9 _ _ _ (by simp)) bd145 Tryz.func145 rfl rfl rfl ?_
 simp (maxSteps:=9^9) -dsimp (disch:=repeat first|rw [nxn]|rw [nxp]|omega) only [go_sem,evLen,syC_scope,syC_label]
 refine loopK_of (RnL.rounds (Q:=fun ex u=>u.d=[]∧u.h=h∧ex=.exit 0∧∃n,n≤s.length∧(∀x∈s.drop (s.length-n),48≤x∧x≤57)∧u.t.get 3=some (.int .i64 (n:Nat)))
  (fun k u=>u.d=[]∧u.h=h∧u.t.get 0=some (.str s)∧∃n,n≤s.length∧(∀x∈s.drop (s.length-n),48≤x∧x≤57)∧u.t.get 3=some (.int .i64 (n:Nat))∧k=s.length-n) ?_ s.length ?_) ?_
 ·rintro k ⟨tt,g,d⟩ ⟨e2,e1,t0,n,hn,hd,t3,rfl⟩
  dsimp only at e1 e2 t0 t3
  subst e1 e2
  by_cases c:((n:Nat):Int)<(s.length:Nat)
  ·obtain ⟨a,ha⟩:∃a,s[s.length-1-n]? = some a:=⟨_,List.getElem?_eq_getElem (by omega)⟩
   have ix:=ixS (k:=.i64) Tryz.underlying9 ha
   have e5:((s.length:Nat):Int)-1-((n:Nat):Int)=((s.length-1-n:Nat):Int):=by omega
   have hdr:s.drop (s.length-(n+1))=a::s.drop (s.length-n):=by
    have h1:s.length-(n+1)=s.length-1-n:=by omega
    have h2:s.length-n=s.length-1-n+1:=by omega
    rw [h1,h2,List.drop_eq_getElem_cons (by omega)]
    congr 1
    exact Option.some.inj ((List.getElem?_eq_getElem (by omega)).symm.trans ha)
   by_cases c1:(48:Int)≤(a:Int) <;> by_cases c2:(a:Int)≤57
   ·simp (maxSteps:=9^9) -dsimp (disch:=repeat first|rw [nxn]|rw [nxp]|omega) only [go_sem,evLen,t0,t3,c,e5,ix,c1,c2]
    exact ⟨s.length-(n+1),by omega,trivial,trivial,trivial,n+1,by omega,by
     intro x hx
     rw [hdr] at hx
     rcases List.mem_cons.1 hx with rfl | hx
     ·omega
     ·exact hd x hx,rfl,rfl⟩
   all_goals first | (exfalso;omega) | skip
   all_goals simp (maxSteps:=9^9) -dsimp (disch:=repeat first|rw [nxn]|rw [nxp]|omega) only [go_sem,evLen,t0,t3,c,e5,ix,c1,c2]
   all_goals exact ⟨trivial,trivial,trivial,n,hn,hd,rfl⟩
  ·simp (maxSteps:=9^9) -dsimp (disch:=repeat first|rw [nxn]|rw [nxp]|omega) only [go_sem,evLen,t0,t3,c]
   exact ⟨trivial,trivial,trivial,n,hn,hd,rfl⟩
 ·simp (maxSteps:=9^9) -dsimp (disch:=repeat first|rw [nxn]|rw [nxp]|omega) only [go_sem,evLen]
  exact ⟨trivial,trivial,trivial,0,by omega,by simp,rfl,rfl⟩
 ·rintro ex ⟨tt,g,d⟩ ⟨rfl,rfl,rfl,n,hn,hd,t3⟩
  dsimp only at t3
  simp (maxSteps:=9^9) -dsimp (disch:=repeat first|rw [nxn]|rw [nxp]|omega) only [go_sem,evLen,t3]
  exact ⟨⟨n,hn,hd,rfl⟩,trivial⟩
theorem sufC (hS:Nv S) {h:AH} (s t:List Nat) (hl:s.length≤1000) (ht:t.length≤1000):RnC Tryz.prog S 146 [.str s,.str t] h fun r h'=>(∃a b,a.length≤s.length∧r=.tup [.str a,.bool b])∧h'=h:=by
 refine RnC.enter' Tryz.f146 _ 11 [.tmp 4,.tmp 5] (hS.nv9 _ _ _ (by simp)) bd146 Tryz.func146 rfl rfl rfl ?_
 simp -dsimp only [go_sem,evLen]
 refine callK_of (Q:=fun r h'=>(∃a b,a.length≤s.length∧r=.tup [.str a,.bool b])∧h'=h) ?_ ?_
 ·refine RnC.enter' Tryz.f161 _ 18 [.tmp 4,.tmp 5] (hS.nv9 _ _ _ (by simp)) bd161 Tryz.func161 rfl rfl rfl ?_
  simp -dsimp only [go_sem,evLen]
  refine callK_of (Q:=fun r h'=>(∃b,(b=true→t.length≤s.length)∧r=.bool b)∧h'=h) ?_ ?_
  ·refine RnC.enter' Tryz.f172 _ 21 [.tmp 4] (hS.nv9 _ _ _ (by simp)) bd172 Tryz.func172 rfl rfl rfl ?_
   by_cases c:((t.length:Nat):Int)≤(s.length:Nat)
   ·have e5:((s.length:Nat):Int)-((t.length:Nat):Int)=((s.length-t.length:Nat):Int):=by omega
    have s1:=fun g'=>slSfr (s:=s) (m:=s.length-t.length) (k:=.i64) Tryz.underlying9 g' (by omega)
    have q:=fun a=>eqS h a t
    simp -dsimp (disch:=repeat first|rw [nxn]|rw [nxp]|omega) only [go_sem,evLen,c,e5,s1,q]
    exact ⟨⟨_,(fun _=>by omega),rfl⟩,trivial⟩
   ·simp -dsimp only [go_sem,evLen,c]
    exact ⟨⟨false,(fun hh=>by cases hh),rfl⟩,trivial⟩
  ·rintro r g ⟨⟨b,hb,rfl⟩,rfl⟩
   cases b
   ·simp -dsimp only [go_sem,evLen]
    exact ⟨⟨s,false,Nat.le_refl _,rfl⟩,trivial⟩
   ·have hts:=hb rfl
    have e5:((s.length:Nat):Int)-((t.length:Nat):Int)=((s.length-t.length:Nat):Int):=by omega
    have s1:=fun g'=>slSto (s:=s) (m:=s.length-t.length) (k:=.i64) Tryz.underlying9 g' (by omega)
    simp -dsimp (disch:=repeat first|rw [nxn]|rw [nxp]|omega) only [go_sem,evLen,e5,s1]
    exact ⟨⟨_,_,by simp,rfl⟩,trivial⟩
 ·rintro r g ⟨⟨a,b,ha,rfl⟩,rfl⟩
  simp -dsimp only [go_sem,evLen]
  exact ⟨⟨a,b,ha,rfl⟩,trivial⟩
end
theorem resultsA_four {P:Program} (h:AH) (t:Env) (r s q p:ResultVar):resultsA P h t [r,s,q,p]=(resultA P h t r).bind fun x=>(resultA P h t s).bind fun y=>(resultA P h t q).bind fun z=>(resultA P h t p).bind fun w=>some (.tup [x,y,z,w]):=by
 unfold resultsA
 simp only [List.mapM_cons,List.mapM_nil,Option.pure_def,Option.bind_eq_bind,Option.bind_some]
 cases resultA P h t r <;> cases resultA P h t s <;> cases resultA P h t q <;> cases resultA P h t p <;> rfl
attribute [go_sem] resultsA_four
section
variable {S : Sums}
theorem markedC (hS:Nv S) {h:AH} (s:List Nat) (hl:s.length≤1000):RnC Tryz.prog S 129 [.str s] h fun r h'=>(∃(a:List Nat) (c n:Nat) (b:Bool),a.length≤s.length∧c<1000∧n<1000∧r=.tup [.str a,.int .i64 (c:Nat),.int .i64 (n:Nat),.bool b])∧Fr h h':=by
 refine RnC.enter' Tryz.f129 _ 80 [.tmp 2,.tmp 3,.tmp 4,.tmp 5] (hS.nv9 _ _ _ (by simp)) bd129 Tryz.func129 rfl rfl rfl ?_
 simp -dsimp only [go_sem,evLen]
 refine callK_of (digitsC hS s hl) ?_
 rintro r g ⟨⟨n6,h6,hd6,rfl⟩,rfl⟩
 have e6:((s.length:Nat):Int)-((n6:Nat):Int)=((s.length-n6:Nat):Int):=by omega
 have s6:=fun g'=>slSto (s:=s) (m:=s.length-n6) (k:=.i64) Tryz.underlying9 g' (by omega)
 simp -dsimp (disch:=repeat first|rw [nxn]|rw [nxp]|omega) only [go_sem,evLen,e6,s6]
 refine callK_of (sufC hS (s.take (s.length-n6)) [45] (by simp;omega) (by simp)) ?_
 rintro r g2 ⟨⟨a1,b1,ha1,rfl⟩,rfl⟩
 have ha1':a1.length≤s.length:=by simp at ha1;omega
 simp -dsimp only [go_sem,evLen]
 refine callK_of (digitsC hS a1 (by omega)) ?_
 rintro r g3 ⟨⟨n8,h8,hd8,rfl⟩,rfl⟩
 have e8:((a1.length:Nat):Int)-((n8:Nat):Int)=((a1.length-n8:Nat):Int):=by omega
 have s8:=fun g'=>slSto (s:=a1) (m:=a1.length-n8) (k:=.i64) Tryz.underlying9 g' (by omega)
 simp -dsimp (disch:=repeat first|rw [nxn]|rw [nxp]|omega) only [go_sem,evLen,e8,s8]
 refine callK_of (sufC hS (a1.take (a1.length-n8)) [46,99] (by simp;omega) (by simp)) ?_
 rintro r g4 ⟨⟨a2,b2,ha2,rfl⟩,rfl⟩
 have ha2':a2.length≤s.length:=by simp at ha2;omega
 have non:∃(a:List Nat) (c n:Nat) (b:Bool),a.length≤s.length∧c<1000∧n<1000∧AV.tup [.str [],.int .i64 0,.int .i64 0,.bool false]=.tup [.str a,.int .i64 (c:Nat),.int .i64 (n:Nat),.bool b]:=⟨[],0,0,false,by simp,by omega,by omega,rfl⟩
 cases b1
 ·simp -dsimp only [go_sem,evLen]
  exact ⟨non,Fr.refl _⟩
 cases b2
 ·simp -dsimp only [go_sem,evLen]
  exact ⟨non,Fr.refl _⟩
 by_cases c1:((n6:Nat):Int)=0
 ·simp -dsimp only [go_sem,evLen,c1]
  exact ⟨non,Fr.refl _⟩
 by_cases c2:((n8:Nat):Int)=0
 ·simp -dsimp only [go_sem,evLen,c1,c2]
  exact ⟨non,Fr.refl _⟩
 by_cases c3:3<((n6:Nat):Int)
 ·simp -dsimp only [go_sem,evLen,c1,c2,c3]
  exact ⟨non,Fr.refl _⟩
 by_cases c4:2<((n8:Nat):Int)
 ·simp -dsimp only [go_sem,evLen,c1,c2,c3,c4]
  exact ⟨non,Fr.refl _⟩
 have d6:=fun g'=>slSfr (s:=s) (m:=s.length-n6) (k:=.i64) Tryz.underlying9 g' (by omega)
 have d8:=fun g'=>slSfr (s:=a1) (m:=a1.length-n8) (k:=.i64) Tryz.underlying9 g' (by omega)
 simp (maxSteps:=9^9) -dsimp (disch:=repeat first|rw [nxn]|rw [nxp]|omega) only [go_sem,evLen,c1,c2,c3,c4,e6,d6]
 obtain ⟨m6,hm6,q6⟩:=hS.atoi (s.drop (s.length-n6)) g4 (by simp;omega) (by simp;omega) hd6
 refine callK_of (RnC.sum q6 (Q:=fun r h'=>r=.tup [.int .i64 (m6:Nat),.nilif]∧h'=g4) ⟨rfl,rfl⟩) ?_
 rintro r g5 ⟨rfl,rfl⟩
 simp (maxSteps:=9^9) -dsimp (disch:=repeat first|rw [nxn]|rw [nxp]|omega) only [go_sem,evLen,e8,d8]
 obtain ⟨m8,hm8,q8⟩:=hS.atoi (a1.drop (a1.length-n8)) g5 (by simp;omega) (by simp;omega) hd8
 refine callK_of (RnC.sum q8 (Q:=fun r h'=>r=.tup [.int .i64 (m8:Nat),.nilif]∧h'=g5) ⟨rfl,rfl⟩) ?_
 rintro r g6 ⟨rfl,rfl⟩
 simp -dsimp only [go_sem,evLen]
 exact ⟨⟨a2,m8,m6,true,ha2',hm8,hm6,rfl⟩,Fr.refl _⟩
end
section
variable {S : Sums}
theorem splW (hS:Sp S) {h:AH} {s:List Nat} (hl:s.length≤1000):RnC Tryz.prog S 171 [.str s,.str [47],.int .i64 0,.int .i64 (-1)] h fun r h'=>Fr h h'∧∃id,r=.sl id 0 (splS s).length 1 (some (cntA 47 s+1))∧∃cs,h'.get id=some (.cells cs true false)∧cs.take (splS s).length=(splS s).map .str∧(splS s).length≤cs.length∧h.nx≤id∧id<h'.nx:=by
 refine RnC.enter' Tryz.f171 _ 66 [.tmp 8] (hS.nu _ _ _ (by simp)) bd171 Tryz.func171 rfl rfl rfl ?_
 have c0:¬(-1:Int)=0:=by decide
 have c1:(-1:Int)<0:=by decide
 have hcn:=cntA_le 47 s
 have e47:∀h,binA Tryz.prog h .eql 9 (.str [47]) (.str (bytesOf { data:=#[] }))=some (.bool false):=fun h=>eqS h _ _
 simp -dsimp (disch:=repeat first|rw [nxn]|rw [nxp]|omega) only [go_sem,evLen,c0,c1,e47]
 refine callK_of (cntC hS) ?_
 rintro r h2 ⟨rfl,rfl⟩
 have hmin:min (((cntA 47 s:Nat):Int)+1) (((s.length:Nat):Int)+1)=((cntA 47 s+1:Nat):Int):=by omega
 have hms:=ms51 (n:=cntA 47 s+1) (by omega)
 have hN:((cntA 47 s+1:Nat):Int)-1=((cntA 47 s:Nat):Int):=by omega
 have hz:((cntA 47 s+1)*1==0)=false:=by simp
 rw [hz] at hms
 simp -dsimp (disch:=repeat first|rw [nxn]|rw [nxp]|omega) only [go_sem,evLen,hmin,hms,hN]
 refine loopK_of (RnL.rounds (Q:=fun ex u=>ex=.exit 0∧u.d=[]∧Fr h2 u.h∧u.t.get 9=some (.sl h2.nx 0 (cntA 47 s+1) 1 (some (cntA 47 s+1)))∧∃(i:Nat) (s':List Nat) (cs:List AV) (done:List (List Nat)),u.t.get 10=some (.int .i64 (i:Nat))∧i≤cntA 47 s∧u.t.get 0=some (.str s')∧u.h.get h2.nx=some (.cells cs true false)∧cs.length=cntA 47 s+1∧cs.take i=done.map .str∧done.length=i∧done++[s']=splS s∧h2.nx<u.h.nx)
  (fun m u=>u.d=[]∧Fr h2 u.h∧u.t.get 1=some (.str [47])∧u.t.get 2=some (.int .i64 0)∧u.t.get 3=some (.int .i64 (cntA 47 s:Nat))∧u.t.get 9=some (.sl h2.nx 0 (cntA 47 s+1) 1 (some (cntA 47 s+1)))∧∃(i:Nat) (s':List Nat) (cs:List AV) (done:List (List Nat)),u.t.get 10=some (.int .i64 (i:Nat))∧i≤cntA 47 s∧u.t.get 0=some (.str s')∧u.h.get h2.nx=some (.cells cs true false)∧cs.length=cntA 47 s+1∧cs.take i=done.map .str∧done.length=i∧done++splF (cntA 47 s-i) s'=splS s∧h2.nx<u.h.nx∧s'.length≤1000∧m=cntA 47 s-i) ?_ (cntA 47 s) ?_) ?_
 ·rintro m ⟨t,h1,d⟩ ⟨e2,e1,g1,g2,g3,g9,i,s',cs,done,g10,hi,g0,hg,hcl,hct,hdl,hsp,hnx,hsl,rfl⟩
  dsimp only at e1 e2 g0 g1 g2 g3 g9 g10 hg hnx
  subst e2
  by_cases c4:(i:Int)<(cntA 47 s:Nat)
  ·have hil:i<cntA 47 s:=by omega
   simp -dsimp (disch:=repeat first|rw [nxn]|rw [nxp]|omega) only [go_sem,evLen,c4,g0,g1,g2,g3,g9,g10]
   refine callK_of (idxC3 hS) ?_
   rintro r h3 ⟨rfl,rfl⟩
   obtain ⟨q,hq⟩:∃q,cntA 47 s-i=q+1:=⟨cntA 47 s-i-1,by omega⟩
   rw [hq] at hsp
   by_cases c5:idxA 47 s' 0<0
   ·simp -dsimp (disch:=repeat first|rw [nxn]|rw [nxp]|omega) only [go_sem,evLen,c4,c5,g0,g1,g2,g3,g9,g10]
    refine ⟨trivial,trivial,e1,trivial,i,s',cs,done,rfl,hi,rfl,hg,hcl,hct,hdl,?_,hnx⟩
    rw [←hsp]
    simp [splF,c5]
   ·obtain ⟨w,hw⟩:∃w:Nat,idxA 47 s' 0=(w:Int):=⟨(idxA 47 s' 0).toNat,by omega⟩
    have hws:w<s'.length:=by
     have:=idxA_lt 47 s' 0
     omega
    have c6:¬((w:Int)<0):=by omega
    have t1:∀g,evSlice Tryz.prog g 9 (.str s') none (some (.int .i64 ((w:Int)+0))) none=some (.str (s'.take w)):=fun g=>by
     rw [Int.add_zero];exact slSto Tryz.underlying9 g (by omega)
    have t2:∀g,evSlice Tryz.prog g 9 (.str s') (some (.int .i64 ((w:Int)+1))) none none=some (.str (s'.drop (w+1))):=fun g=>slSfr (m:=w+1) Tryz.underlying9 g (by omega)
    have hsp2:done++s'.take w::splF q (s'.drop (w+1))=splS s:=by
     rw [←hsp]
     simp [splF,hw]
     omega
    have hil2:i<cntA 47 s+1:=by omega
    simp -dsimp (disch:=repeat first|rw [nxn]|rw [nxp]|omega) only [go_sem,evLen,c4,c5,c6,hw,t1,t2,hg,hcl,hil2,hi,Nat.mul_one,g0,g1,g2,g3,g9,g10]
    have hct2:(cs.take i).length=i:=by rw [List.length_take];omega
    refine ⟨q,by omega,trivial,e1.put _ (by omega),trivial,trivial,trivial,trivial,i+1,_,_,done++[s'.take w],rfl,by omega,rfl,rfl,?_,?_,by simp [hdl],?_,hnx,by rw [List.length_drop];omega,by omega⟩
    ·simp [hct2,hcl];omega
    ·rw [List.take_append_of_le_length (by simp [hct2]),List.take_of_length_le (by simp [hct2]),hct,List.map_append]
     rfl
    ·rw [show cntA 47 s-(i+1)=q by omega,←hsp2]
     simp
  ·have:i=cntA 47 s:=by omega
   subst this
   rw [Nat.sub_self] at hsp
   simp -dsimp only [go_sem,evLen,c4,g0,g1,g2,g3,g9,g10]
   exact ⟨trivial,trivial,e1,trivial,cntA 47 s,s',cs,done,rfl,hi,rfl,hg,hcl,hct,hdl,hsp,hnx⟩
 ·simp -dsimp only [go_sem,evLen]
  exact ⟨trivial,Fr.new _ _,trivial,trivial,trivial,trivial,0,s,_,[],rfl,Nat.zero_le _,rfl,rfl,by simp [rep_len],rfl,rfl,rfl,Nat.lt_succ_self _,hl,by omega⟩
 ·rintro ex ⟨t,h1,d⟩ ⟨rfl,rfl,e1,g9,i,s',cs,done,g10,hi,g0,hg,hcl,hct,hdl,hsp,hnx⟩
  dsimp only at e1 g0 g9 g10 hg hnx
  have hil2:i<cntA 47 s+1:=by omega
  have hsl2:∀g,evSlice Tryz.prog g 205 (.sl h2.nx 0 (cntA 47 s+1) 1 (some (cntA 47 s+1))) none (some (.int .i64 ((i:Int)+1))) none=some (.sl h2.nx 0 (i+1) 1 (some (cntA 47 s+1))):=fun g=>by
   have hu:upTo (((i+1:Nat)):Int) (cntA 47 s+1)=some (i+1):=by rw [upTo_of (by omega) (by omega)];simp
   have hu2:upTo ((i:Int)+1) (cntA 47 s+1)=some (i+1):=hu
   simp [evSlice,Tryz.underlying205,tz9,boundsA,boundA,hu2]
  simp -dsimp (disch:=repeat first|rw [nxn]|rw [nxp]|omega) only [go_sem,evLen,hg,hcl,hil2,hi,hsl2,Nat.mul_one,g0,g9,g10]
  have hct2:(cs.take i).length=i:=by rw [List.length_take];omega
  have hln:(splS s).length=i+1:=by rw [←hsp];simp [hdl]
  refine ⟨e1.put _ (Nat.le_refl _),_,?_,_,AH.get_put_eq rfl,?_,?_,Nat.le_refl _,hnx⟩
  ·rw [hln]
  ·rw [hln,List.take_append_of_le_length (by simp [hct2]),List.take_of_length_le (by simp [hct2]),hct,←hsp,List.map_append]
   rfl
  ·rw [hln]
   simp [hct2] <;> omega
theorem split2W (hS:Sp S) {h:AH} {s:List Nat} (hl:s.length≤1000):RnC Tryz.prog S 158 [.str s,.str [47]] h fun r h'=>Fr h h'∧∃id,r=.sl id 0 (splS s).length 1 (some (cntA 47 s+1))∧∃cs,h'.get id=some (.cells cs true false)∧cs.take (splS s).length=(splS s).map .str∧(splS s).length≤cs.length∧h.nx≤id∧id<h'.nx:=by
 refine RnC.enter' Tryz.f158 _ 8 [.tmp 4] (hS.nu _ _ _ (by simp)) bd158 Tryz.func158 rfl rfl rfl ?_
 simp -dsimp only [go_sem,evLen]
 refine callK_of (splW hS hl) ?_
 rintro r h2 ⟨h3,id,rfl,h4⟩
 exact ⟨h3,id,rfl,h4⟩
theorem rightW (hS:Sp S) {h:AH} {s:List Nat} (hl:s.length≤1000):RnC Tryz.prog S 141 [.str s] h fun r h'=>r=.bool (rightS s)∧Fr h h':=by
 refine RnC.enter' Tryz.f141 _ 26 [.tmp 2] (hS.nu _ _ _ (by simp)) bd141 Tryz.func141 rfl rfl rfl ?_
 simp -dsimp only [go_sem,evLen]
 refine callK_of (split2W hS hl) ?_
 rintro r h2 ⟨hf,id,rfl,cs,hg,hct,hcl,hid,hnx⟩
 have hlen:(splS s).length≤1001:=by
  have h1:=(splF_len (cntA 47 s) s).2
  have h2:=cntA_le 47 s
  show (splF (cntA 47 s) s).length≤1001
  omega
 simp -dsimp only [go_sem,evLen]
 refine loopK_of (RnL.rounds (Q:=fun ex u=>u.d=[]∧Fr h2 u.h∧u.t.get 0=some (.str s)∧u.t.get 3=some (.sl id 0 (splS s).length 1 (some (cntA 47 s+1)))∧(ex=.exit 0∧(splS s).all nameOK=true∨ex=.ret∧(splS s).all nameOK=false∧u.t.get 2=some (.bool false)))
  (fun m u=>u.d=[]∧Fr h2 u.h∧u.t.get 0=some (.str s)∧u.t.get 3=some (.sl id 0 (splS s).length 1 (some (cntA 47 s+1)))∧u.t.get 8=some (.sl id 0 (splS s).length 1 (some (cntA 47 s+1)))∧u.t.get 9=some (.int .i64 ((splS s).length:Nat))∧∃i:Nat,u.t.get 10=some (.int .i64 (i:Nat))∧i≤(splS s).length∧((splS s).take i).all nameOK=true∧m=(splS s).length-i) ?_ (splS s).length ?_) ?_
 ·rintro m ⟨t,h1,d⟩ ⟨e2,e1,g0,g3,g8,g9,i,g10,hi,hall,rfl⟩
  dsimp only at e1 e2 g0 g3 g8 g9 g10
  subst e2
  by_cases c4:(i:Int)<((splS s).length:Nat)
  ·have hil:i<(splS s).length:=by omega
   obtain ⟨a,ha⟩:∃a,(splS s)[i]? = some a:=⟨_,List.getElem?_eq_getElem hil⟩
   have hcs:cs[i]? = some (.str a):=by
    have:(cs.take (splS s).length)[i]? = some (.str a):=by rw [hct,List.getElem?_map,ha];rfl
    rw [List.getElem?_take_of_lt hil] at this
    exact this
   have hg1:h1.get id=some (.cells cs true false):=(e1.get id hnx).trans hg
   have hal:a.length≤4611686018427387904:=by
    have:=(splF_len (cntA 47 s) s).1 a (List.mem_iff_getElem?.2 ⟨i,ha⟩)
    omega
   have htk:(splS s).take (i+1)=(splS s).take i++[a]:=by rw [List.take_add_one,ha];rfl
   simp -dsimp (disch:=repeat first|rw [nxn]|rw [nxp]|omega) only [go_sem,evLen,c4,hg1,hcs,hil,Nat.mul_one,g0,g3,g8,g9,g10]
   refine callK_of (nameC hS hal) ?_
   rintro r h3 ⟨rfl,rfl⟩
   cases hc:nameOK a
   ·simp -dsimp only [go_sem,evLen,c4,hg1,hcs,hil,Nat.mul_one,g0,g3,g8,g9,g10]
    refine ⟨trivial,e1,trivial,trivial,.inr ⟨trivial,?_,trivial⟩⟩
    rw [List.all_eq_false]
    exact ⟨a,List.mem_iff_getElem?.2 ⟨i,ha⟩,by simp [hc]⟩
   ·simp -dsimp (disch:=repeat first|rw [nxn]|rw [nxp]|omega) only [go_sem,evLen,c4,hg1,hcs,hil,Nat.mul_one,g0,g3,g8,g9,g10]
    exact ⟨(splS s).length-(i+1),by omega,trivial,e1,trivial,trivial,trivial,trivial,i+1,rfl,by omega,by rw [htk,List.all_append,hall];simp [hc],rfl⟩
  ·have:i=(splS s).length:=by omega
   subst this
   rw [List.take_length] at hall
   simp -dsimp only [go_sem,evLen,c4,g0,g3,g8,g9,g10]
   exact ⟨trivial,e1,trivial,trivial,.inl ⟨trivial,hall⟩⟩
 ·simp -dsimp only [go_sem,evLen]
  exact ⟨trivial,Fr.refl _,trivial,trivial,trivial,trivial,0,rfl,Nat.zero_le _,by simp,rfl⟩
 ·rintro ex ⟨t,h1,d⟩ ⟨e2,e1,g0,g3,⟨rfl,hh⟩ | ⟨rfl,hh,g2⟩⟩
  ·dsimp only at e1 e2 g0 g3
   subst e2
   by_cases c5:(((splS s).length:Nat):Int)≤4
   ·have c5':(splS s).length≤4:=by omega
    by_cases c6:((s.length:Nat):Int)≤64
    ·simp -dsimp only [go_sem,evLen,c5,c6,g0,g3]
     refine ⟨?_,hf.trans e1⟩
     have c6':s.length≤64:=by omega
     simp [rightS,hh,c5',c6']
    ·simp -dsimp only [go_sem,evLen,c5,c6,g0,g3]
     refine ⟨?_,hf.trans e1⟩
     have c6':¬s.length≤64:=by omega
     simp [rightS,hh,c5',c6']
   ·simp -dsimp only [go_sem,evLen,c5,g0,g3]
    refine ⟨?_,hf.trans e1⟩
    have c5':¬(splS s).length≤4:=by omega
    simp [rightS,hh,c5']
  ·dsimp only at e1 e2 g2
   subst e2
   simp -dsimp only [go_sem,evLen,g2]
   refine ⟨?_,hf.trans e1⟩
   simp [rightS,hh]
end
section
variable {S : Sums}
theorem addS {P:Program} (h:AH) (t:TypeId) {a b:List Nat} (hl:a.length+b.length≤4000000):binA P h .add t (.str a) (.str b)=some (.str (a++b)):=by
 show strA .add a b=_
 unfold strA
 simp only
 rw [if_neg]
 have:IntKind.i64.max=9223372036854775807:=by decide
 rw [this]
 omega
theorem check64 {s:List Nat} (h:checkS s=0):s.length≤64:=by
 unfold checkS at h
 split at h
 ·cases h
 ·omega
theorem pcopyC (hS:Nv S) {h:AH} (s:List Nat) (c n:Int):RnC Tryz.prog S 130 [.str s,.int .i64 c,.int .i64 n] h fun r h'=>(∃(a:List Nat) (e:Int),a.length≤1000∧r=.tup [.str a,.int .i64 e])∧Fr h h':=by
 refine RnC.enter' Tryz.f130 _ 64 [.tmp 6,.tmp 7] (hS.nv9 _ _ _ (by simp)) bd130 Tryz.func130 rfl rfl rfl ?_
 simp -dsimp only [go_sem,evLen]
 refine callK_of (Go.Proofs.YtihigekgnnoejaaGreatDoor.tre.checkC hS.toSp) ?_
 rintro r g ⟨rfl,f1⟩
 by_cases c0:¬((checkS s:Nat):Int)=0
 ·simp -dsimp only [go_sem,evLen,c0]
  exact ⟨⟨[],_,Nat.zero_le _,rfl⟩,f1⟩
 replace c0:((checkS s:Nat):Int)=0:=Decidable.not_not.1 c0
 have hl:s.length≤64:=check64 (by omega)
 by_cases c1:c<1
 ·simp -dsimp only [go_sem,evLen,c0,c1]
  exact ⟨⟨[],_,Nat.zero_le _,rfl⟩,f1⟩
 by_cases c2:99<c
 ·simp -dsimp only [go_sem,evLen,c0,c1,c2]
  exact ⟨⟨[],_,Nat.zero_le _,rfl⟩,f1⟩
 by_cases c3:n<0
 ·simp -dsimp only [go_sem,evLen,c0,c1,c2,c3]
  exact ⟨⟨[],_,Nat.zero_le _,rfl⟩,f1⟩
 by_cases c4:999<n
 ·simp -dsimp only [go_sem,evLen,c0,c1,c2,c3,c4]
  exact ⟨⟨[],_,Nat.zero_le _,rfl⟩,f1⟩
 have u2:(bytesOf { data:=#[46,99] }).length=2:=rfl
 have u1:(bytesOf { data:=#[45] }).length=1:=rfl
 obtain ⟨c,rfl⟩:=Int.eq_ofNat_of_zero_le (show 0≤c by omega)
 obtain ⟨n,rfl⟩:=Int.eq_ofNat_of_zero_le (show 0≤n by omega)
 simp -dsimp only [go_sem,evLen,c0,c1,c2,c3,c4]
 refine callK_of (splitC hS s (by omega)) ?_
 rintro r g2 ⟨⟨a,b,ha,hb,rfl⟩,f2⟩
 simp -dsimp only [go_sem,evLen]
 refine callK_of (endC hS s (by omega)) ?_
 rintro r g3 ⟨⟨p,q,hp,hq,rfl⟩,f3⟩
 have a1:=fun g'=>addS (P:=Tryz.prog) g' 9 (a:=p) (b:=bytesOf { data:=#[46,99] }) (by show p.length+2≤_;omega)
 simp -dsimp only [go_sem,evLen,a1]
 obtain ⟨x,hx,ix⟩:=hS.itoa c g3 (by omega)
 refine callK_of (RnC.sum ix (Q:=fun r h'=>r=.str x∧h'=g3) ⟨rfl,rfl⟩) ?_
 rintro r g4 ⟨rfl,rfl⟩
 have a2:=fun g'=>addS (P:=Tryz.prog) g' 9 (a:=p++bytesOf { data:=#[46,99] }) (b:=x) (by simp only [List.length_append,u2,u1];omega)
 have a3:=fun g'=>addS (P:=Tryz.prog) g' 9 (a:=p++bytesOf { data:=#[46,99] }++x) (b:=bytesOf { data:=#[45] }) (by simp only [List.length_append,u2,u1];omega)
 simp -dsimp only [go_sem,evLen,a2,a3]
 obtain ⟨y,hy,iy⟩:=hS.itoa n g4 (by omega)
 refine callK_of (RnC.sum iy (Q:=fun r h'=>r=.str y∧h'=g4) ⟨rfl,rfl⟩) ?_
 rintro r g5 ⟨rfl,rfl⟩
 have a4:=fun g'=>addS (P:=Tryz.prog) g' 9 (a:=p++bytesOf { data:=#[46,99] }++x++bytesOf { data:=#[45] }) (b:=y) (by simp only [List.length_append,u2,u1];omega)
 have a5:=fun g'=>addS (P:=Tryz.prog) g' 9 (a:=p++bytesOf { data:=#[46,99] }++x++bytesOf { data:=#[45] }++y) (b:=q) (by simp only [List.length_append,u2,u1];omega)
 have hNl:(p++bytesOf { data:=#[46,99] }++x++bytesOf { data:=#[45] }++y++q).length≤200:=by
  simp only [List.length_append,u2,u1];omega
 generalize hN:p++bytesOf { data:=#[46,99] }++x++bytesOf { data:=#[45] }++y++q=N at hNl
 rw [hN] at a5
 have f5:Fr h g5:=(f1.trans f2).trans f3
 have u3:(bytesOf { data:=#[47] }).length=1:=rfl
 by_cases ca:a=[]
 ·have nq:∀g',binA Tryz.prog g' .neq 9 (.str a) (.str (bytesOf { data:=#[] }))=some (.bool false):=fun g'=>by
   rw [show (bytesOf { data:=#[] })=[] from rfl,neSb,decide_eq_true ca];rfl
  simp -dsimp only [go_sem,evLen,a4,a5,nq]
  refine callK_of (rightW hS.toSp (s:=N) (by omega)) ?_
  rintro r g6 ⟨rfl,f6⟩
  cases hr:rightS N
  ·simp -dsimp only [go_sem,evLen]
   exact ⟨⟨[],_,Nat.zero_le _,rfl⟩,f5.trans f6⟩
  ·simp -dsimp only [go_sem,evLen]
   exact ⟨⟨N,_,by omega,rfl⟩,f5.trans f6⟩
 ·have nq:∀g',binA Tryz.prog g' .neq 9 (.str a) (.str (bytesOf { data:=#[] }))=some (.bool true):=fun g'=>by
   rw [show (bytesOf { data:=#[] })=[] from rfl,neSb,decide_eq_false ca];rfl
  have a6:=fun g'=>addS (P:=Tryz.prog) g' 9 (a:=a) (b:=bytesOf { data:=#[47] }) (by omega)
  have a7:=fun g'=>addS (P:=Tryz.prog) g' 9 (a:=a++bytesOf { data:=#[47] }) (b:=N) (by simp only [List.length_append,u3];omega)
  have hNl2:(a++bytesOf { data:=#[47] }++N).length≤1000:=by simp only [List.length_append,u3];omega
  simp -dsimp only [go_sem,evLen,a4,a5,nq,a6,a7]
  refine callK_of (rightW hS.toSp (s:=a++bytesOf { data:=#[47] }++N) hNl2) ?_
  rintro r g6 ⟨rfl,f6⟩
  cases hr:rightS (a++bytesOf { data:=#[47] }++N)
  ·simp -dsimp only [go_sem,evLen]
   exact ⟨⟨[],_,Nat.zero_le _,rfl⟩,f5.trans f6⟩
  ·simp -dsimp only [go_sem,evLen]
   exact ⟨⟨_,_,hNl2,rfl⟩,f5.trans f6⟩
end
section
variable {S : Sums}
theorem pcopiedC (hS:Nv S) {h:AH} (s:List Nat):RnC Tryz.prog S 101 [.str s] h fun r h'=>(∃(a:List Nat) (c n:Int) (b:Bool),r=.tup [.str a,.int .i64 c,.int .i64 n,.bool b])∧Fr h h':=by
 refine RnC.enter' Tryz.f101 _ 81 [.tmp 2,.tmp 3,.tmp 4,.tmp 5] (hS.nv9 _ _ _ (by simp)) bd101 Tryz.func101 rfl rfl rfl ?_
 simp -dsimp only [go_sem,evLen]
 refine callK_of (Go.Proofs.YtihigekgnnoejaaGreatDoor.tre.checkC hS.toSp) ?_
 rintro r g ⟨rfl,f1⟩
 by_cases c0:¬((checkS s:Nat):Int)=0
 ·simp -dsimp only [go_sem,evLen,c0]
  exact ⟨⟨[],_,_,_,rfl⟩,f1⟩
 replace c0:((checkS s:Nat):Int)=0:=Decidable.not_not.1 c0
 have hl:s.length≤64:=check64 (by omega)
 simp -dsimp only [go_sem,evLen,c0]
 refine callK_of (splitC hS s (by omega)) ?_
 rintro r g2 ⟨⟨a,b,ha,hb,rfl⟩,f2⟩
 simp -dsimp only [go_sem,evLen]
 refine callK_of (endC hS s (by omega)) ?_
 rintro r g3 ⟨⟨p,q,hp,hq,rfl⟩,f3⟩
 have b1:∀x y:List Nat,evBuild Tryz.prog 179 [(0,.str x),(1,.str y)]=some (.agg [.str x,.str y]):=fun x y=>by kernel_rfl
 simp -dsimp only [go_sem,evLen,b1]
 have f4:Fr h (g3.new (.cells [.str p,.str q,.str b,.str (bytesOf { data:=#[] })] true false)):=((f1.trans f2).trans f3).trans (Fr.new _ _)
 have hgg:(g3.new (.cells [.str p,.str q,.str b,.str (bytesOf { data:=#[] })] true false)).get g3.nx=some (.cells [.str p,.str q,.str b,.str (bytesOf { data:=#[] })] true false):=by rw [AH.get_new,if_pos rfl]
 have hgn:g3.nx<(g3.new (.cells [.str p,.str q,.str b,.str (bytesOf { data:=#[] })] true false)).nx:=by rw [AH.nx_new];exact Nat.lt_succ_self _
 generalize g3.new (.cells [.str p,.str q,.str b,.str (bytesOf { data:=#[] })] true false)=G at f4 hgg hgn ⊢
 refine loopK_of (RnL.rounds (Q:=fun ex u=>u.d=[]∧Fr h u.h∧(ex=.exit 0∨ex=.ret∧∃(a:List Nat) (c n:Int) (b:Bool),u.t.get 2=some (.str a)∧u.t.get 3=some (.int .i64 c)∧u.t.get 4=some (.int .i64 n)∧u.t.get 5=some (.bool b)))
  (fun k u=>u.d=[]∧Fr G u.h∧u.t.get 0=some (.str s)∧u.t.get 6=some (.str a)∧u.t.get 37=some (.sl g3.nx 0 2 2 (some 2))∧u.t.get 38=some (.int .i64 2)∧∃i:Nat,i≤2∧u.t.get 39=some (.int .i64 (i:Nat))∧k=2-i) ?_ 2 ?_) ?_
 ·rintro k ⟨tt,g,d⟩ ⟨e2,e1,t0,t6,t37,t38,i,hi,t39,rfl⟩
  dsimp only at e1 e2 t0 t6 t37 t38 t39
  subst e2
  by_cases c:(i:Int)<2
  ·obtain ⟨x,y,hx,hy,E0,E1⟩:∃x y:List Nat,x.length≤64∧y.length≤64∧[AV.str p,.str q,.str b,.str (bytesOf { data:=#[] })][i*2]? = some (.str x)∧[AV.str p,.str q,.str b,.str (bytesOf { data:=#[] })][i*2+1]? = some (.str y):=by
    rcases (by omega:i=0∨i=1) with rfl | rfl
    ·exact ⟨p,q,by omega,by omega,rfl,rfl⟩
    ·exact ⟨b,[],by omega,by simp,rfl,rfl⟩
   have hgi:=(e1.get g3.nx hgn).trans hgg
   have hm:i<2:=by omega
   have hsz:i*2+2≤4:=by omega
   have hT:List.take 2 (List.drop (i*2) [AV.str p,.str q,.str b,.str (bytesOf { data:=#[] })])=[.str x,.str y]:=by
    rcases (by omega:i=0∨i=1) with rfl | rfl
    ·simp only [List.getElem?_cons_zero,List.getElem?_cons_succ,Nat.zero_mul,Nat.zero_add,Option.some.injEq] at E0 E1
     rw [E0,E1];rfl
    ·have h0:AV.str b=.str x:=Option.some.inj E0
     have h1:AV.str (bytesOf { data:=#[] })=.str y:=Option.some.inj E1
     rw [←h0,←h1];rfl
   simp -dsimp (disch:=repeat first|rw [nxn]|rw [nxp]|omega) only [go_sem,evLen,t0,t6,t37,t38,t39,c,hgi,hm,hsz,hT]
   have fa:Fr g ((g.new (.cells [.str [],.str []] true false)).put g.nx (.cells [.str x,.str y] true false)):=(Fr.new _ _).put _ (Nat.le_refl _)
   have hga:((g.new (.cells [.str [],.str []] true false)).put g.nx (.cells [.str x,.str y] true false)).get g.nx=some (.cells [.str x,.str y] true false):=by rw [AH.get_put,if_pos rfl]
   have hna:g.nx<((g.new (.cells [.str [],.str []] true false)).put g.nx (.cells [.str x,.str y] true false)).nx:=by rw [AH.nx_put,AH.nx_new];exact Nat.lt_succ_self _
   generalize hga':(g.new (.cells [.str [],.str []] true false)).put g.nx (.cells [.str x,.str y] true false)=ga at fa hga hna ⊢
   refine callK_of (markedC hS x (by omega)) ?_
   rintro r g5 ⟨⟨m,c',n',ok,hm1,hc',hn',rfl⟩,f5⟩
   have hgb:=(f5.get g.nx hna).trans hga
   have hnb:=Nat.lt_of_lt_of_le hna f5.1
   cases ok
   ·simp -dsimp (disch:=repeat first|rw [nxn]|rw [nxp]|omega) only [go_sem,evLen,t0,t6,t37,t38,t39]
    exact ⟨2-(i+1),by omega,trivial,(e1.trans fa).trans f5,trivial,trivial,trivial,trivial,i+1,by omega,rfl,rfl⟩
   ·have a1:=fun g'=>addS (P:=Tryz.prog) g' 9 (a:=m) (b:=y) (by omega)
    have u3:(bytesOf { data:=#[47] }).length=1:=rfl
    by_cases ca:a=[]
    ·have nq:∀g',binA Tryz.prog g' .neq 9 (.str a) (.str (bytesOf { data:=#[] }))=some (.bool false):=fun g'=>by
      rw [show (bytesOf { data:=#[] })=[] from rfl,neSb,decide_eq_true ca];rfl
     simp -dsimp only [go_sem,evLen,t0,t6,t37,t38,t39,hgb,a1,nq]
     refine callK_of (pcopyC hS (m++y) c' n') ?_
     rintro r g6 ⟨⟨z,e,hz,rfl⟩,f6⟩
     have es:=fun g'=>eqSb g' z s
     by_cases ce:e=0
     ·cases hzs:decide (z=s)
      ·simp (maxSteps:=9^9) -dsimp (disch:=repeat first|rw [nxn]|rw [nxp]|omega) only [go_sem,evLen,t0,t6,t37,t38,t39,ce,es,hzs]
       exact ⟨2-(i+1),by omega,trivial,((e1.trans fa).trans f5).trans f6,trivial,trivial,trivial,trivial,i+1,by omega,rfl,rfl⟩
      ·simp -dsimp only [go_sem,evLen,t0,t6,t37,t38,t39,ce,es,hzs]
       exact ⟨trivial,(((f4.trans e1).trans fa).trans f5).trans f6,.inr ⟨trivial,_,_,_,_,rfl,rfl,rfl,rfl⟩⟩
     ·simp -dsimp (disch:=repeat first|rw [nxn]|rw [nxp]|omega) only [go_sem,evLen,t0,t6,t37,t38,t39,ce]
      exact ⟨2-(i+1),by omega,trivial,((e1.trans fa).trans f5).trans f6,trivial,trivial,trivial,trivial,i+1,by omega,rfl,rfl⟩
    ·have nq:∀g',binA Tryz.prog g' .neq 9 (.str a) (.str (bytesOf { data:=#[] }))=some (.bool true):=fun g'=>by
      rw [show (bytesOf { data:=#[] })=[] from rfl,neSb,decide_eq_false ca];rfl
     have a6:=fun g'=>addS (P:=Tryz.prog) g' 9 (a:=a) (b:=bytesOf { data:=#[47] }) (by omega)
     have a7:=fun g'=>addS (P:=Tryz.prog) g' 9 (a:=a++bytesOf { data:=#[47] }) (b:=m++y) (by simp only [List.length_append,u3];omega)
     simp -dsimp only [go_sem,evLen,t0,t6,t37,t38,t39,hgb,a1,nq,a6,a7]
     refine callK_of (pcopyC hS (a++bytesOf { data:=#[47] }++(m++y)) c' n') ?_
     rintro r g6 ⟨⟨z,e,hz,rfl⟩,f6⟩
     have es:=fun g'=>eqSb g' z s
     by_cases ce:e=0
     ·cases hzs:decide (z=s)
      ·simp (maxSteps:=9^9) -dsimp (disch:=repeat first|rw [nxn]|rw [nxp]|omega) only [go_sem,evLen,t0,t6,t37,t38,t39,ce,es,hzs]
       exact ⟨2-(i+1),by omega,trivial,((e1.trans fa).trans f5).trans f6,trivial,trivial,trivial,trivial,i+1,by omega,rfl,rfl⟩
      ·simp -dsimp only [go_sem,evLen,t0,t6,t37,t38,t39,ce,es,hzs]
       exact ⟨trivial,(((f4.trans e1).trans fa).trans f5).trans f6,.inr ⟨trivial,_,_,_,_,rfl,rfl,rfl,rfl⟩⟩
     ·simp (maxSteps:=9^9) -dsimp (disch:=repeat first|rw [nxn]|rw [nxp]|omega) only [go_sem,evLen,t0,t6,t37,t38,t39,ce]
      exact ⟨2-(i+1),by omega,trivial,((e1.trans fa).trans f5).trans f6,trivial,trivial,trivial,trivial,i+1,by omega,rfl,rfl⟩
  ·simp -dsimp only [go_sem,evLen,t0,t6,t37,t38,t39,c]
   exact ⟨trivial,f4.trans e1,.inl trivial⟩
 ·simp -dsimp only [go_sem,evLen]
  exact ⟨trivial,Fr.refl _,trivial,trivial,trivial,trivial,0,by omega,rfl,rfl⟩
 ·rintro ex ⟨tt,g,d⟩ ⟨rfl,e1,rfl | ⟨rfl,a',c,n,b',t2,t3,t4,t5⟩⟩
  ·dsimp only at e1
   simp -dsimp only [go_sem,evLen]
   exact ⟨⟨_,_,_,_,rfl⟩,e1⟩
  ·dsimp only at e1 t2 t3 t4 t5
   simp -dsimp only [go_sem,evLen,t2,t3,t4,t5]
   exact ⟨⟨_,_,_,_,rfl⟩,e1⟩
end
end Go.Proofs.YtihigekgnnoejaaGreatDoor.mdl
end