/- Texts joined: TPa, TPb. -/
import Derived.Test.YtihigekgnnoejaaGreatDoorFacts
set_option maxRecDepth 100000
set_option linter.unusedVariables false
set_option linter.unusedSimpArgs false
set_option maxHeartbeats 4000000
section
namespace Go.Proofs.YtihigekgnnoejaaGreatDoor.tre
open Go Go.Abs Go.Proofs
def chOK (b:Nat):Bool:=(decide (97≤b)&&decide (b≤122))||(decide (48≤b)&&decide (b≤57))||decide (b=45)||decide (b=95)||decide (b=46)
def nameOK (s:List Nat):Bool:=decide (1≤s.length)&&decide (s.length≤24)&&!(decide (s[0]? = some 46))&&s.all chOK
def splF:Nat→List Nat→List (List Nat)
 | 0,s=>[s]
 | n+1,s=>if idxA 47 s 0<0 then [s] else s.take (idxA 47 s 0).toNat::splF n (s.drop ((idxA 47 s 0).toNat+1))
def splS (s:List Nat):List (List Nat):=splF (cntA 47 s) s
def rightS (s:List Nat):Bool:=(splS s).all nameOK&&decide ((splS s).length≤4)&&decide (s.length≤64)
def checkS (s:List Nat):Nat:=if 64<s.length then 3 else if rightS s=false then 2 else 0
theorem ixS {t:TypeId} (ht:Tryz.prog.underlying t=some .string) {s:List Nat} {i b:Nat} {k:IntKind} (hb:s[i]? = some b):evIndex Tryz.prog t (.str s) (.int k (i:Nat))=some (.int .u8 (b:Int)):=by
 have hi:i<s.length:=(List.getElem?_eq_some_iff.1 hb).1
 unfold evIndex
 simp only [ht]
 rw [below_of (by omega) (by omega)]
 simp [hb]
theorem ixS0 {t:TypeId} (ht:Tryz.prog.underlying t=some .string) {s:List Nat} {b:Nat} {k:IntKind} (hb:s[0]? = some b):evIndex Tryz.prog t (.str s) (.int k 0)=some (.int .u8 (b:Int)):=ixS (i:=0) ht hb
section
variable {S : Sums}
structure Sp (S:Sums):Prop where
 nu:∀f args h,f∈[159,204,194,182,181,171,158,141,121]→S f args h=none
 cnt:∀args h,S 193 args h=sumCount args h
 idx:∀args h,S 211 args h=sumIndex args h
theorem nameC (hS:Sp S) {h:AH} {s:List Nat} (hl:s.length≤4611686018427387904):RnC Tryz.prog S 159 [.str s] h fun r h'=>r=.bool (nameOK s)∧h'=h:=by
 refine RnC.enter' Tryz.f159 _ 54 [.tmp 2] (hS.nu _ _ _ (by simp)) bd159 Tryz.func159 rfl rfl rfl ?_
 by_cases c1:((s.length:Nat):Int)<1
 ·have e:s=[]:=List.length_eq_zero_iff.1 (by omega)
  subst e
  simp -dsimp only [go_sem,evLen,c1]
  exact ⟨rfl,trivial⟩
 ·obtain ⟨b,hb⟩:∃b,s[0]? = some b:=⟨_,List.getElem?_eq_getElem (by omega)⟩
  by_cases c2:(24:Int)<((s.length:Nat):Int)
  ·simp -dsimp only [go_sem,evLen,c1,c2]
   have:¬s.length≤24:=by omega
   simp only [nameOK,this,decide_false,Bool.and_false,Bool.false_and]
   exact ⟨trivial,trivial⟩
  ·have ix:=ixS0 (k:=.i64) Tryz.underlying9 hb
   by_cases c3:(b:Int)=46
   ·simp -dsimp only [go_sem,evLen,c1,c2,c3,ix]
    have:b=46:=by omega
    simp [nameOK,this,hb]
   ·have hne:¬b=46:=by omega
    simp -dsimp (disch:=repeat first|rw [nxn]|rw [nxp]|omega) only [go_sem,evLen,c1,c2,c3,ix]
    refine loopK_of (RnL.rounds (Q:=fun ex u=>u.h=h∧u.d=[]∧(ex=.exit 0∧s.all chOK=true∨ex=.ret∧s.all chOK=false∧u.t.get 2=some (.bool false)))
     (fun m u=>u.h=h∧u.d=[]∧u.t.get 0=some (.str s)∧u.t.get 19=some (.int .i64 (s.length:Nat))∧∃i:Nat,u.t.get 20=some (.int .i64 (i:Nat))∧i≤s.length∧(s.take i).all chOK=true∧m=s.length-i) ?_ s.length ?_) ?_
    ·rintro m ⟨t,h1,d⟩ ⟨e1,e2,g0,g19,i,g20,hi,hall,rfl⟩
     dsimp only at e1 e2 g0 g19 g20
     subst e1 e2
     by_cases c4:(i:Int)<(s.length:Nat)
     ·have hil:i<s.length:=by omega
      obtain ⟨a,ha⟩:∃a,s[i]? = some a:=⟨_,List.getElem?_eq_getElem hil⟩
      have ixa:=ixS (k:=.i64) Tryz.underlying9 ha
      have htk:s.take (i+1)=s.take i++[a]:=by rw [List.take_add_one,ha];rfl
      have hone:chOK a=true→(s.take (i+1)).all chOK=true:=fun hc=>by rw [htk,List.all_append,hall];simp [hc]
      have hnone:chOK a=false→s.all chOK=false:=fun hc=>by
       rw [List.all_eq_false]
       exact ⟨a,List.mem_iff_getElem?.2 ⟨i,ha⟩,by simp [hc]⟩
      by_cases q1:(97:Int)≤(a:Int) <;> by_cases q2:(a:Int)≤122 <;> by_cases q3:(48:Int)≤(a:Int) <;> by_cases q4:(a:Int)≤57 <;> by_cases q5:(a:Int)=45 <;> by_cases q6:(a:Int)=95 <;> by_cases q7:(a:Int)=46
      all_goals first
       | (exfalso;omega)
       | skip
      all_goals simp -dsimp (disch:=repeat first|rw [nxn]|rw [nxp]|omega) only [go_sem,evLen,c4,g0,g19,g20,ixa,q1,q2,q3,q4,q5,q6,q7]
      all_goals first
       | exact ⟨trivial,trivial,.inr ⟨trivial,hnone (by simp [chOK];omega),trivial⟩⟩
       | exact ⟨s.length-(i+1),by omega,trivial,trivial,trivial,trivial,i+1,rfl,by omega,hone (by simp [chOK];omega),rfl⟩
     ·have:i=s.length:=by omega
      subst this
      rw [List.take_length] at hall
      simp -dsimp only [go_sem,evLen,c4,g0,g19,g20]
      exact ⟨trivial,trivial,.inl ⟨trivial,hall⟩⟩
    ·simp -dsimp only [go_sem,evLen]
     exact ⟨trivial,trivial,trivial,trivial,0,rfl,Nat.zero_le _,by simp,rfl⟩
    ·have hl1:1≤s.length:=by omega
     have hl2:s.length≤24:=by omega
     rintro ex ⟨t,h1,d⟩ ⟨e1,e2,⟨rfl,hh⟩ | ⟨rfl,hh,g2⟩⟩
     ·dsimp only at e1 e2
      subst e1 e2
      simp -dsimp only [go_sem,evLen]
      simp [nameOK,hl1,hl2,hb,hne,hh]
     ·dsimp only at e1 e2 g2
      subst e1 e2
      simp -dsimp only [go_sem,evLen,g2]
      simp [nameOK,hh]
end
theorem ix47 (k:IntKind):evIndex Tryz.prog 9 (.str [47]) (.int k 0)=some (.int .u8 47):=ixS0 Tryz.underlying9 rfl
theorem slSto {t:TypeId} (ht:Tryz.prog.underlying t=some .string) (h:AH) {s:List Nat} {m:Nat} {k:IntKind} (hm:m≤s.length):evSlice Tryz.prog h t (.str s) none (some (.int k (m:Nat))) none=some (.str (s.take m)):=by
 have hu:upTo ((m:Nat):Int) s.length=some m:=by rw [upTo_of (by omega) (by omega)];simp
 simp [evSlice,ht,boundsA,boundA,hu]
theorem slSfr {t:TypeId} (ht:Tryz.prog.underlying t=some .string) (h:AH) {s:List Nat} {m:Nat} {k:IntKind} (hm:m≤s.length):evSlice Tryz.prog h t (.str s) (some (.int k (m:Nat))) none none=some (.str (s.drop m)):=by
 have hu:upTo ((m:Nat):Int) s.length=some m:=by rw [upTo_of (by omega) (by omega)];simp
 simp [evSlice,ht,boundsA,boundA,hu]
 rw [List.take_of_length_le (by simp)]
theorem mi9:((Tryz.prog.info? 9).bind fun i=>i.zero.bind fun z=>(cellsA (toAV z)).map fun zc=>(i.bytes,i.size,zc))=some (16,1,[AV.str []]):=by kernel_rfl
theorem rep_len:∀(n:Nat) (v:AV),(repCells [v] n).length=n
 | 0,_=>rfl
 | n+1,v=>by
  show ([v]++repCells [v] n).length=_
  rw [List.length_append,rep_len n v]
  simp;omega
theorem ms51 {n:Nat} (hn:n≤1024):msA Tryz.prog 205 (.int .i64 (n:Nat)) (.int .i64 (n:Nat))=some (.cells (repCells [.str []] n) true (n*1==0),fun id=>.sl id 0 n 1 (some n)):=by
 have h:=mi9
 show msA Tryz.prog 205 (.int .i64 (.ofNat n)) (.int .i64 (.ofNat n))=_
 unfold msA
 rw [Tryz.underlying205]
 simp only [Option.bind_eq_bind]
 cases hi:Tryz.prog.info? 9 with
 | none=>rw [hi] at h;cases h
 | some i =>
  rw [hi] at h
  simp only [Option.bind_some] at h ⊢
  cases hz:i.zero with
  | none=>rw [hz] at h;cases h
  | some z =>
   rw [hz] at h
   simp only [Option.bind_some] at h ⊢
   cases hc:cellsA (toAV z) with
   | none=>rw [hc] at h;cases h
   | some zc =>
    rw [hc] at h
    simp only [Option.map_some,Option.some.injEq,Prod.mk.injEq] at h
    obtain ⟨e1,e2,e3⟩:=h
    subst e3
    simp only [Option.bind_some,e1,e2]
    rw [if_pos (by simp;omega)]
section
variable {S : Sums}
theorem idxR (hS:Sp S) {h:AH} {s:List Nat} {Q:AV→AH→Prop} (hq:Q (.int .i64 (idxA 47 s 0)) h):RnC Tryz.prog S 211 [.str s,.int .u8 47] h Q :=
 RnC.sum (v:=.int .i64 (idxA 47 s 0)) (h':=h) (by rw [hS.idx];rfl) hq
theorem cntR (hS:Sp S) {h:AH} {s:List Nat} {Q:AV→AH→Prop} (hq:Q (.int .i64 (cntA 47 s:Nat)) h):RnC Tryz.prog S 193 [.str s,.int .u8 47] h Q :=
 RnC.sum (v:=.int .i64 (cntA 47 s:Nat)) (h':=h) (by rw [hS.cnt];rfl) hq
theorem idxC1 (hS:Sp S) {h:AH} {s:List Nat}:RnC Tryz.prog S 204 [.str s,.int .u8 47] h fun r h'=>r=.int .i64 (idxA 47 s 0)∧h'=h:=by
 refine RnC.enter' Tryz.f204 _ 8 [.tmp 4] (hS.nu _ _ _ (by simp)) bd204 Tryz.func204 rfl rfl rfl ?_
 simp -dsimp only [go_sem,evLen]
 refine callK_of (idxR (Q:=fun r h'=>r=.int .i64 (idxA 47 s 0)∧h'=h) hS ⟨rfl,rfl⟩) ?_
 rintro r h2 ⟨rfl,rfl⟩
 simp -dsimp only [go_sem,evLen]
 exact ⟨trivial,trivial⟩
theorem eqS (h:AH) (a b:List Nat):binA Tryz.prog h .eql 9 (.str a) (.str b)=some (.bool (decide (a=b))):=by
 simp [binA,strA,eqL_eq]
theorem idxA_lt (k:Nat):∀(s:List Nat) (i:Nat),idxA k s i<i+s.length∨idxA k s i=-1
 | [],i=>.inr (by simp [idxA])
 | a::l,i=>by
  unfold idxA
  cases Nat.beq a k
  ·simp only [cond_false]
   rcases idxA_lt k l (i+1) with h1 | h1
   ·refine .inl ?_
    simp only [List.length_cons]
    omega
   ·exact .inr h1
  ·simp only [cond_true]
   exact .inl (by simp;omega)
theorem idxC2 (hS:Sp S) {h:AH} {s:List Nat}:RnC Tryz.prog S 194 [.str s,.str [47]] h fun r h'=>r=.int .i64 (idxA 47 s 0)∧h'=h:=by
 refine RnC.enter' Tryz.f194 _ 143 [.tmp 4] (hS.nu _ _ _ (by simp)) bd194 Tryz.func194 rfl rfl rfl ?_
 have c0:¬(1:Int)=0:=by decide
 by_cases e:[47]=s
 ·subst e
  simp -dsimp only [go_sem,evLen,c0,eqS,ix47]
  exact ⟨by simp [idxA],trivial⟩
 ·simp -dsimp only [go_sem,evLen,c0,eqS,ix47,e]
  refine callK_of (idxC1 hS) ?_
  rintro r h2 ⟨rfl,rfl⟩
  simp -dsimp only [go_sem,evLen]
  exact ⟨trivial,trivial⟩
theorem idxC3 (hS:Sp S) {h:AH} {s:List Nat}:RnC Tryz.prog S 182 [.str s,.str [47]] h fun r h'=>r=.int .i64 (idxA 47 s 0)∧h'=h:=by
 refine RnC.enter' Tryz.f182 _ 8 [.tmp 4] (hS.nu _ _ _ (by simp)) bd182 Tryz.func182 rfl rfl rfl ?_
 simp -dsimp only [go_sem,evLen]
 refine callK_of (idxC2 hS) ?_
 rintro r h2 ⟨rfl,rfl⟩
 simp -dsimp only [go_sem,evLen]
 exact ⟨trivial,trivial⟩
theorem cntC (hS:Sp S) {h:AH} {s:List Nat}:RnC Tryz.prog S 181 [.str s,.str [47]] h fun r h'=>r=.int .i64 (cntA 47 s:Nat)∧h'=h:=by
 refine RnC.enter' Tryz.f181 _ 34 [.tmp 4] (hS.nu _ _ _ (by simp)) bd181 Tryz.func181 rfl rfl rfl ?_
 have c0:¬(1:Int)=0:=by decide
 simp -dsimp only [go_sem,evLen,c0,ix47]
 refine callK_of (cntR (Q:=fun r h'=>r=.int .i64 (cntA 47 s:Nat)∧h'=h) hS ⟨rfl,rfl⟩) ?_
 rintro r h2 ⟨rfl,rfl⟩
 simp -dsimp only [go_sem,evLen]
 exact ⟨trivial,trivial⟩
theorem cntA_le (k:Nat):∀s:List Nat,cntA k s≤s.length
 | []=>Nat.le_refl _
 | a::l=>by
  have:=cntA_le k l
  unfold cntA
  cases Nat.beq a k <;> simp <;> omega
theorem splC (hS:Sp S) {h:AH} {s:List Nat} (hl:s.length≤64):RnC Tryz.prog S 171 [.str s,.str [47],.int .i64 0,.int .i64 (-1)] h fun r h'=>Fr h h'∧∃id,r=.sl id 0 (splS s).length 1 (some (cntA 47 s+1))∧∃cs,h'.get id=some (.cells cs true false)∧cs.take (splS s).length=(splS s).map .str∧(splS s).length≤cs.length∧h.nx≤id∧id<h'.nx:=by
 refine RnC.enter' Tryz.f171 _ 66 [.tmp 8] (hS.nu _ _ _ (by simp)) bd171 Tryz.func171 rfl rfl rfl ?_
 have c0:¬(-1:Int)=0:=by decide
 have c1:(-1:Int)<0:=by decide
 have hcn:=cntA_le 47 s
 have e47:∀h,binA Tryz.prog h .eql 9 (.str [47]) (.str (bytesOf { data:=#[] }))=some (.bool false):=fun h=>eqS h _ _
 simp -dsimp (disch:=repeat first|rw [nxn]|rw [nxp]|omega) only [go_sem,evLen,c0,c1,e47]
 refine callK_of (cntC hS) ?_
 rintro r h2 ⟨rfl,rfl⟩
 have hmin:min (((cntA 47 s:Nat):Int)+1) (((s.length:Nat):Int)+1)=((cntA 47 s+1:Nat):Int):=by omega
 have hms:=ms51 (n:=cntA 47 s+1) (by omega)
 have hN:((cntA 47 s+1:Nat):Int)-1=((cntA 47 s:Nat):Int):=by omega
 have hz:((cntA 47 s+1)*1==0)=false:=by simp
 rw [hz] at hms
 simp -dsimp (disch:=repeat first|rw [nxn]|rw [nxp]|omega) only [go_sem,evLen,hmin,hms,hN]
 refine loopK_of (RnL.rounds (Q:=fun ex u=>ex=.exit 0∧u.d=[]∧Fr h2 u.h∧u.t.get 9=some (.sl h2.nx 0 (cntA 47 s+1) 1 (some (cntA 47 s+1)))∧∃(i:Nat) (s':List Nat) (cs:List AV) (done:List (List Nat)),u.t.get 10=some (.int .i64 (i:Nat))∧i≤cntA 47 s∧u.t.get 0=some (.str s')∧u.h.get h2.nx=some (.cells cs true false)∧cs.length=cntA 47 s+1∧cs.take i=done.map .str∧done.length=i∧done++[s']=splS s∧h2.nx<u.h.nx)
  (fun m u=>u.d=[]∧Fr h2 u.h∧u.t.get 1=some (.str [47])∧u.t.get 2=some (.int .i64 0)∧u.t.get 3=some (.int .i64 (cntA 47 s:Nat))∧u.t.get 9=some (.sl h2.nx 0 (cntA 47 s+1) 1 (some (cntA 47 s+1)))∧∃(i:Nat) (s':List Nat) (cs:List AV) (done:List (List Nat)),u.t.get 10=some (.int .i64 (i:Nat))∧i≤cntA 47 s∧u.t.get 0=some (.str s')∧u.h.get h2.nx=some (.cells cs true false)∧cs.length=cntA 47 s+1∧cs.take i=done.map .str∧done.length=i∧done++splF (cntA 47 s-i) s'=splS s∧h2.nx<u.h.nx∧s'.length≤64∧m=cntA 47 s-i) ?_ (cntA 47 s) ?_) ?_
 ·rintro m ⟨t,h1,d⟩ ⟨e2,e1,g1,g2,g3,g9,i,s',cs,done,g10,hi,g0,hg,hcl,hct,hdl,hsp,hnx,hsl,rfl⟩
  dsimp only at e1 e2 g0 g1 g2 g3 g9 g10 hg hnx
  subst e2
  by_cases c4:(i:Int)<(cntA 47 s:Nat)
  ·have hil:i<cntA 47 s:=by omega
   simp -dsimp (disch:=repeat first|rw [nxn]|rw [nxp]|omega) only [go_sem,evLen,c4,g0,g1,g2,g3,g9,g10]
   refine callK_of (idxC3 hS) ?_
   rintro r h3 ⟨rfl,rfl⟩
   obtain ⟨q,hq⟩:∃q,cntA 47 s-i=q+1:=⟨cntA 47 s-i-1,by omega⟩
   rw [hq] at hsp
   by_cases c5:idxA 47 s' 0<0
   ·simp -dsimp (disch:=repeat first|rw [nxn]|rw [nxp]|omega) only [go_sem,evLen,c4,c5,g0,g1,g2,g3,g9,g10]
    refine ⟨trivial,trivial,e1,trivial,i,s',cs,done,rfl,hi,rfl,hg,hcl,hct,hdl,?_,hnx⟩
    rw [←hsp]
    simp [splF,c5]
   ·obtain ⟨w,hw⟩:∃w:Nat,idxA 47 s' 0=(w:Int):=⟨(idxA 47 s' 0).toNat,by omega⟩
    have hws:w<s'.length:=by
     have:=idxA_lt 47 s' 0
     omega
    have c6:¬((w:Int)<0):=by omega
    have t1:∀g,evSlice Tryz.prog g 9 (.str s') none (some (.int .i64 ((w:Int)+0))) none=some (.str (s'.take w)):=fun g=>by
     rw [Int.add_zero];exact slSto Tryz.underlying9 g (by omega)
    have t2:∀g,evSlice Tryz.prog g 9 (.str s') (some (.int .i64 ((w:Int)+1))) none none=some (.str (s'.drop (w+1))):=fun g=>slSfr (m:=w+1) Tryz.underlying9 g (by omega)
    have hsp2:done++s'.take w::splF q (s'.drop (w+1))=splS s:=by
     rw [←hsp]
     simp [splF,hw]
     omega
    have hil2:i<cntA 47 s+1:=by omega
    simp -dsimp (disch:=repeat first|rw [nxn]|rw [nxp]|omega) only [go_sem,evLen,c4,c5,c6,hw,t1,t2,hg,hcl,hil2,hi,Nat.mul_one,g0,g1,g2,g3,g9,g10]
    have hct2:(cs.take i).length=i:=by rw [List.length_take];omega
    refine ⟨q,by omega,trivial,e1.put _ (by omega),trivial,trivial,trivial,trivial,i+1,_,_,done++[s'.take w],rfl,by omega,rfl,rfl,?_,?_,by simp [hdl],?_,hnx,by rw [List.length_drop];omega,by omega⟩
    ·simp [hct2,hcl];omega
    ·rw [List.take_append_of_le_length (by simp [hct2]),List.take_of_length_le (by simp [hct2]),hct,List.map_append]
     rfl
    ·rw [show cntA 47 s-(i+1)=q by omega,←hsp2]
     simp
  ·have:i=cntA 47 s:=by omega
   subst this
   rw [Nat.sub_self] at hsp
   simp -dsimp only [go_sem,evLen,c4,g0,g1,g2,g3,g9,g10]
   exact ⟨trivial,trivial,e1,trivial,cntA 47 s,s',cs,done,rfl,hi,rfl,hg,hcl,hct,hdl,hsp,hnx⟩
 ·simp -dsimp only [go_sem,evLen]
  exact ⟨trivial,Fr.new _ _,trivial,trivial,trivial,trivial,0,s,_,[],rfl,Nat.zero_le _,rfl,rfl,by simp [rep_len],rfl,rfl,rfl,Nat.lt_succ_self _,hl,by omega⟩
 ·rintro ex ⟨t,h1,d⟩ ⟨rfl,rfl,e1,g9,i,s',cs,done,g10,hi,g0,hg,hcl,hct,hdl,hsp,hnx⟩
  dsimp only at e1 g0 g9 g10 hg hnx
  have hil2:i<cntA 47 s+1:=by omega
  have hsl2:∀g,evSlice Tryz.prog g 205 (.sl h2.nx 0 (cntA 47 s+1) 1 (some (cntA 47 s+1))) none (some (.int .i64 ((i:Int)+1))) none=some (.sl h2.nx 0 (i+1) 1 (some (cntA 47 s+1))):=fun g=>by
   have hu:upTo (((i+1:Nat)):Int) (cntA 47 s+1)=some (i+1):=by rw [upTo_of (by omega) (by omega)];simp
   have hu2:upTo ((i:Int)+1) (cntA 47 s+1)=some (i+1):=hu
   simp [evSlice,Tryz.underlying205,tz9,boundsA,boundA,hu2]
  simp -dsimp (disch:=repeat first|rw [nxn]|rw [nxp]|omega) only [go_sem,evLen,hg,hcl,hil2,hi,hsl2,Nat.mul_one,g0,g9,g10]
  have hct2:(cs.take i).length=i:=by rw [List.length_take];omega
  have hln:(splS s).length=i+1:=by rw [←hsp];simp [hdl]
  refine ⟨e1.put _ (Nat.le_refl _),_,?_,_,AH.get_put_eq rfl,?_,?_,Nat.le_refl _,hnx⟩
  ·rw [hln]
  ·rw [hln,List.take_append_of_le_length (by simp [hct2]),List.take_of_length_le (by simp [hct2]),hct,←hsp,List.map_append]
   rfl
  ·rw [hln]
   simp [hct2] <;> omega
theorem split2 (hS:Sp S) {h:AH} {s:List Nat} (hl:s.length≤64):RnC Tryz.prog S 158 [.str s,.str [47]] h fun r h'=>Fr h h'∧∃id,r=.sl id 0 (splS s).length 1 (some (cntA 47 s+1))∧∃cs,h'.get id=some (.cells cs true false)∧cs.take (splS s).length=(splS s).map .str∧(splS s).length≤cs.length∧h.nx≤id∧id<h'.nx:=by
 refine RnC.enter' Tryz.f158 _ 8 [.tmp 4] (hS.nu _ _ _ (by simp)) bd158 Tryz.func158 rfl rfl rfl ?_
 simp -dsimp only [go_sem,evLen]
 refine callK_of (splC hS hl) ?_
 rintro r h2 ⟨h3,id,rfl,h4⟩
 exact ⟨h3,id,rfl,h4⟩
theorem splF_len:∀(n:Nat) (s:List Nat) ,(∀x∈splF n s,x.length≤s.length)∧(splF n s).length≤n+1
 | 0,s=>⟨fun x hx=>by rw [List.mem_singleton.1 hx];exact Nat.le_refl _,Nat.le_refl _⟩
 | n+1,s=>by
  unfold splF
  split
  ·exact ⟨fun x hx=>by rw [List.mem_singleton.1 hx];exact Nat.le_refl _,by simp⟩
  ·obtain ⟨h1,h2⟩:=splF_len n (s.drop ((idxA 47 s 0).toNat+1))
   refine ⟨fun x hx=>?_,by simp;omega⟩
   rcases List.mem_cons.1 hx with rfl | hx
   ·simp;omega
   ·have:=h1 x hx
    rw [List.length_drop] at this
    omega
theorem rightC (hS:Sp S) {h:AH} {s:List Nat} (hl:s.length≤64):RnC Tryz.prog S 141 [.str s] h fun r h'=>r=.bool (rightS s)∧Fr h h':=by
 refine RnC.enter' Tryz.f141 _ 26 [.tmp 2] (hS.nu _ _ _ (by simp)) bd141 Tryz.func141 rfl rfl rfl ?_
 simp -dsimp only [go_sem,evLen]
 refine callK_of (split2 hS hl) ?_
 rintro r h2 ⟨hf,id,rfl,cs,hg,hct,hcl,hid,hnx⟩
 have hlen:(splS s).length≤65:=by
  have h1:=(splF_len (cntA 47 s) s).2
  have h2:=cntA_le 47 s
  show (splF (cntA 47 s) s).length≤65
  omega
 simp -dsimp only [go_sem,evLen]
 refine loopK_of (RnL.rounds (Q:=fun ex u=>u.d=[]∧Fr h2 u.h∧u.t.get 0=some (.str s)∧u.t.get 3=some (.sl id 0 (splS s).length 1 (some (cntA 47 s+1)))∧(ex=.exit 0∧(splS s).all nameOK=true∨ex=.ret∧(splS s).all nameOK=false∧u.t.get 2=some (.bool false)))
  (fun m u=>u.d=[]∧Fr h2 u.h∧u.t.get 0=some (.str s)∧u.t.get 3=some (.sl id 0 (splS s).length 1 (some (cntA 47 s+1)))∧u.t.get 8=some (.sl id 0 (splS s).length 1 (some (cntA 47 s+1)))∧u.t.get 9=some (.int .i64 ((splS s).length:Nat))∧∃i:Nat,u.t.get 10=some (.int .i64 (i:Nat))∧i≤(splS s).length∧((splS s).take i).all nameOK=true∧m=(splS s).length-i) ?_ (splS s).length ?_) ?_
 ·rintro m ⟨t,h1,d⟩ ⟨e2,e1,g0,g3,g8,g9,i,g10,hi,hall,rfl⟩
  dsimp only at e1 e2 g0 g3 g8 g9 g10
  subst e2
  by_cases c4:(i:Int)<((splS s).length:Nat)
  ·have hil:i<(splS s).length:=by omega
   obtain ⟨a,ha⟩:∃a,(splS s)[i]? = some a:=⟨_,List.getElem?_eq_getElem hil⟩
   have hcs:cs[i]? = some (.str a):=by
    have:(cs.take (splS s).length)[i]? = some (.str a):=by rw [hct,List.getElem?_map,ha];rfl
    rw [List.getElem?_take_of_lt hil] at this
    exact this
   have hg1:h1.get id=some (.cells cs true false):=(e1.get id hnx).trans hg
   have hal:a.length≤4611686018427387904:=by
    have:=(splF_len (cntA 47 s) s).1 a (List.mem_iff_getElem?.2 ⟨i,ha⟩)
    omega
   have htk:(splS s).take (i+1)=(splS s).take i++[a]:=by rw [List.take_add_one,ha];rfl
   simp -dsimp (disch:=repeat first|rw [nxn]|rw [nxp]|omega) only [go_sem,evLen,c4,hg1,hcs,hil,Nat.mul_one,g0,g3,g8,g9,g10]
   refine callK_of (nameC hS hal) ?_
   rintro r h3 ⟨rfl,rfl⟩
   cases hc:nameOK a
   ·simp -dsimp only [go_sem,evLen,c4,hg1,hcs,hil,Nat.mul_one,g0,g3,g8,g9,g10]
    refine ⟨trivial,e1,trivial,trivial,.inr ⟨trivial,?_,trivial⟩⟩
    rw [List.all_eq_false]
    exact ⟨a,List.mem_iff_getElem?.2 ⟨i,ha⟩,by simp [hc]⟩
   ·simp -dsimp (disch:=repeat first|rw [nxn]|rw [nxp]|omega) only [go_sem,evLen,c4,hg1,hcs,hil,Nat.mul_one,g0,g3,g8,g9,g10]
    exact ⟨(splS s).length-(i+1),by omega,trivial,e1,trivial,trivial,trivial,trivial,i+1,rfl,by omega,by rw [htk,List.all_append,hall];simp [hc],rfl⟩
  ·have:i=(splS s).length:=by omega
   subst this
   rw [List.take_length] at hall
   simp -dsimp only [go_sem,evLen,c4,g0,g3,g8,g9,g10]
   exact ⟨trivial,e1,trivial,trivial,.inl ⟨trivial,hall⟩⟩
 ·simp -dsimp only [go_sem,evLen]
  exact ⟨trivial,Fr.refl _,trivial,trivial,trivial,trivial,0,rfl,Nat.zero_le _,by simp,rfl⟩
 ·rintro ex ⟨t,h1,d⟩ ⟨e2,e1,g0,g3,⟨rfl,hh⟩ | ⟨rfl,hh,g2⟩⟩
  ·dsimp only at e1 e2 g0 g3
   subst e2
   by_cases c5:(((splS s).length:Nat):Int)≤4
   ·have c6:((s.length:Nat):Int)≤64:=by omega
    simp -dsimp only [go_sem,evLen,c5,c6,g0,g3]
    refine ⟨?_,hf.trans e1⟩
    have c5':(splS s).length≤4:=by omega
    simp [rightS,hh,c5',hl]
   ·simp -dsimp only [go_sem,evLen,c5,g0,g3]
    refine ⟨?_,hf.trans e1⟩
    have c5':¬(splS s).length≤4:=by omega
    simp [rightS,hh,c5']
  ·dsimp only at e1 e2 g2
   subst e2
   simp -dsimp only [go_sem,evLen,g2]
   refine ⟨?_,hf.trans e1⟩
   simp [rightS,hh]
theorem checkC (hS:Sp S) {h:AH} {s:List Nat}:RnC Tryz.prog S 121 [.str s] h fun r h'=>r=.int .i64 (checkS s:Nat)∧Fr h h':=by
 refine RnC.enter' Tryz.f121 _ 11 [.tmp 2] (hS.nu _ _ _ (by simp)) bd121 Tryz.func121 rfl rfl rfl ?_
 by_cases c:(64:Int)<((s.length:Nat):Int)
 ·simp -dsimp only [go_sem,evLen,c]
  have c':64<s.length:=by omega
  simp only [checkS,c',if_true]
  exact ⟨rfl,Fr.refl _⟩
 ·have c':¬64<s.length:=by omega
  simp -dsimp only [go_sem,evLen,c]
  refine callK_of (rightC hS (by omega)) ?_
  rintro r h2 ⟨rfl,hf⟩
  cases hr:rightS s
  ·simp -dsimp only [go_sem,evLen,c]
   simp only [checkS,c',if_false,hr,if_true]
   exact ⟨rfl,hf⟩
  ·simp -dsimp only [go_sem,evLen,c]
   simp only [checkS,c',if_false,hr]
   exact ⟨rfl,hf⟩
end
end Go.Proofs.YtihigekgnnoejaaGreatDoor.tre
end