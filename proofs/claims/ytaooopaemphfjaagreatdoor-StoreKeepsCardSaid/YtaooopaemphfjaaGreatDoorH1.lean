/- Texts joined: TPa, TPb, TCa, TCb, TCc. -/
import Derived.Test.YtaooopaemphfjaaGreatDoorFacts
import Derived.Test.YtaooopaemphfjaaGreatDoorAb5
set_option maxRecDepth 100000
set_option linter.unusedVariables false
set_option linter.unusedSimpArgs false
set_option maxHeartbeats 8000000
section
namespace Go.Proofs.YtaooopaemphfjaaGreatDoor.tre
open Go Go.Abs Go.Proofs
def chOK (b:Nat):Bool:=(decide (97≤b)&&decide (b≤122))||(decide (48≤b)&&decide (b≤57))||decide (b=45)||decide (b=95)||decide (b=46)
def nameOK (s:List Nat):Bool:=decide (1≤s.length)&&decide (s.length≤24)&&!(decide (s[0]? = some 46))&&s.all chOK
def splF:Nat→List Nat→List (List Nat)
 | 0,s=>[s]
 | n+1,s=>if idxA 47 s 0<0 then [s] else s.take (idxA 47 s 0).toNat::splF n (s.drop ((idxA 47 s 0).toNat+1))
def splS (s:List Nat):List (List Nat):=splF (cntA 47 s) s
def rightS (s:List Nat):Bool:=(splS s).all nameOK&&decide ((splS s).length≤4)&&decide (s.length≤64)
def checkS (s:List Nat):Nat:=if 64<s.length then 3 else if rightS s=false then 2 else 0
def tmpS:List Nat:=[46,116,109,112,47]
def preS (s p:List Nat):Bool:=decide (s.take p.length=p)
def tempedS (s:List Nat):Bool:=preS s tmpS&&decide (checkS (s.drop 5)=0)
def okP (s:List Nat):Bool:=decide (checkS s=0)||tempedS s
theorem ixS {t:TypeId} (ht:Tryz.prog.underlying t=some .string) {s:List Nat} {i b:Nat} {k:IntKind} (hb:s[i]? = some b):evIndex Tryz.prog t (.str s) (.int k (i:Nat))=some (.int .u8 (b:Int)):=by
 have hi:i<s.length:=(List.getElem?_eq_some_iff.1 hb).1
 unfold evIndex
 simp only [ht]
 rw [below_of (by omega) (by omega)]
 simp [hb]
theorem ixS0 {t:TypeId} (ht:Tryz.prog.underlying t=some .string) {s:List Nat} {b:Nat} {k:IntKind} (hb:s[0]? = some b):evIndex Tryz.prog t (.str s) (.int k 0)=some (.int .u8 (b:Int)):=ixS (i:=0) ht hb
section
variable {S : Sums}
structure Sp (S:Sums):Prop where
 nu:∀f args h,f∈[130,181,178,170,169,158,129,89,55,179,171,159,134]→S f args h=none
 cnt:∀args h,S 177 args h=sumCount args h
 idx:∀args h,S 185 args h=sumIndex args h
theorem nameC (hS:Sp S) {h:AH} {s:List Nat} (hl:s.length≤4611686018427387904):RnC Tryz.prog S 130 [.str s] h fun r h'=>r=.bool (nameOK s)∧h'=h:=by
 refine RnC.enter' Tryz.f130 _ 54 [.tmp 2] (hS.nu _ _ _ (by simp)) bd130 Tryz.func130 rfl rfl rfl ?_
 by_cases c1:((s.length:Nat):Int)<1
 ·have e:s=[]:=List.length_eq_zero_iff.1 (by omega)
  subst e
  simp -dsimp only [go_sem,evLen,c1]
  exact ⟨rfl,trivial⟩
 ·obtain ⟨b,hb⟩:∃b,s[0]? = some b:=⟨_,List.getElem?_eq_getElem (by omega)⟩
  by_cases c2:(24:Int)<((s.length:Nat):Int)
  ·simp -dsimp only [go_sem,evLen,c1,c2]
   have:¬s.length≤24:=by omega
   simp only [nameOK,this,decide_false,Bool.and_false,Bool.false_and]
   exact ⟨trivial,trivial⟩
  ·have ix:=ixS0 (k:=.i64) Tryz.underlying9 hb
   by_cases c3:(b:Int)=46
   ·simp -dsimp only [go_sem,evLen,c1,c2,c3,ix]
    have:b=46:=by omega
    simp [nameOK,this,hb]
   ·have hne:¬b=46:=by omega
    simp -dsimp (disch:=(repeat first | rw [nxn] | rw [nxp]);try omega) only [go_sem,evLen,c1,c2,c3,ix]
    refine loopK_of (RnL.rounds (Q:=fun ex u=>u.h=h∧u.d=[]∧(ex=.exit 0∧s.all chOK=true∨ex=.ret∧s.all chOK=false∧u.t.get 2=some (.bool false)))
     (fun m u=>u.h=h∧u.d=[]∧u.t.get 0=some (.str s)∧u.t.get 19=some (.int .i64 (s.length:Nat))∧∃i:Nat,u.t.get 20=some (.int .i64 (i:Nat))∧i≤s.length∧(s.take i).all chOK=true∧m=s.length-i) ?_ s.length ?_) ?_
    ·rintro m ⟨t,h1,d⟩ ⟨e1,e2,g0,g19,i,g20,hi,hall,rfl⟩
     dsimp only at e1 e2 g0 g19 g20
     subst e1 e2
     by_cases c4:(i:Int)<(s.length:Nat)
     ·have hil:i<s.length:=by omega
      obtain ⟨a,ha⟩:∃a,s[i]? = some a:=⟨_,List.getElem?_eq_getElem hil⟩
      have ixa:=ixS (k:=.i64) Tryz.underlying9 ha
      have htk:s.take (i+1)=s.take i++[a]:=by rw [List.take_add_one,ha];rfl
      have hone:chOK a=true→(s.take (i+1)).all chOK=true:=fun hc=>by rw [htk,List.all_append,hall];simp [hc]
      have hnone:chOK a=false→s.all chOK=false:=fun hc=>by
       rw [List.all_eq_false]
       exact ⟨a,List.mem_iff_getElem?.2 ⟨i,ha⟩,by simp [hc]⟩
      by_cases q1:(97:Int)≤(a:Int) <;> by_cases q2:(a:Int)≤122 <;> by_cases q3:(48:Int)≤(a:Int) <;> by_cases q4:(a:Int)≤57 <;> by_cases q5:(a:Int)=45 <;> by_cases q6:(a:Int)=95 <;> by_cases q7:(a:Int)=46
      all_goals first
       | (exfalso;omega)
       | skip
      all_goals simp -dsimp (disch:=(repeat first | rw [nxn] | rw [nxp]);try omega) only [go_sem,evLen,c4,g0,g19,g20,ixa,q1,q2,q3,q4,q5,q6,q7]
      all_goals first
       | exact ⟨trivial,trivial,.inr ⟨trivial,hnone (by simp [chOK];omega),trivial⟩⟩
       | exact ⟨s.length-(i+1),by omega,trivial,trivial,trivial,trivial,i+1,rfl,by omega,hone (by simp [chOK];omega),rfl⟩
     ·have:i=s.length:=by omega
      subst this
      rw [List.take_length] at hall
      simp -dsimp only [go_sem,evLen,c4,g0,g19,g20]
      exact ⟨trivial,trivial,.inl ⟨trivial,hall⟩⟩
    ·simp -dsimp only [go_sem,evLen]
     exact ⟨trivial,trivial,trivial,trivial,0,rfl,Nat.zero_le _,by simp,rfl⟩
    ·have hl1:1≤s.length:=by omega
     have hl2:s.length≤24:=by omega
     rintro ex ⟨t,h1,d⟩ ⟨e1,e2,⟨rfl,hh⟩ | ⟨rfl,hh,g2⟩⟩
     ·dsimp only at e1 e2
      subst e1 e2
      simp -dsimp only [go_sem,evLen]
      simp [nameOK,hl1,hl2,hb,hne,hh]
     ·dsimp only at e1 e2 g2
      subst e1 e2
      simp -dsimp only [go_sem,evLen,g2]
      simp [nameOK,hh]
end
theorem ix47 (k:IntKind):evIndex Tryz.prog 9 (.str [47]) (.int k 0)=some (.int .u8 47):=ixS0 Tryz.underlying9 rfl
theorem slSto {t:TypeId} (ht:Tryz.prog.underlying t=some .string) (h:AH) {s:List Nat} {m:Nat} {k:IntKind} (hm:m≤s.length):evSlice Tryz.prog h t (.str s) none (some (.int k (m:Nat))) none=some (.str (s.take m)):=by
 have hu:upTo ((m:Nat):Int) s.length=some m:=by rw [upTo_of (by omega) (by omega)];simp
 simp [evSlice,ht,boundsA,boundA,hu]
theorem slSfr {t:TypeId} (ht:Tryz.prog.underlying t=some .string) (h:AH) {s:List Nat} {m:Nat} {k:IntKind} (hm:m≤s.length):evSlice Tryz.prog h t (.str s) (some (.int k (m:Nat))) none none=some (.str (s.drop m)):=by
 have hu:upTo ((m:Nat):Int) s.length=some m:=by rw [upTo_of (by omega) (by omega)];simp
 simp [evSlice,ht,boundsA,boundA,hu]
 rw [List.take_of_length_le (by simp)]
theorem mi9:((Tryz.prog.info? 9).bind fun i=>i.zero.bind fun z=>(cellsA (toAV z)).map fun zc=>(i.bytes,i.size,zc))=some (16,1,[AV.str []]):=by kernel_rfl
theorem rep_len:∀(n:Nat) (v:AV),(repCells [v] n).length=n
 | 0,_=>rfl
 | n+1,v=>by
  show ([v]++repCells [v] n).length=_
  rw [List.length_append,rep_len n v]
  simp;omega
theorem ms51 {n:Nat} (hn:n≤1024):msA Tryz.prog 66 (.int .i64 (n:Nat)) (.int .i64 (n:Nat))=some (.cells (repCells [.str []] n) true (n*1==0),fun id=>.sl id 0 n 1 (some n)):=by
 have h:=mi9
 show msA Tryz.prog 66 (.int .i64 (.ofNat n)) (.int .i64 (.ofNat n))=_
 unfold msA
 rw [Tryz.underlying66]
 simp only [Option.bind_eq_bind]
 cases hi:Tryz.prog.info? 9 with
 | none=>rw [hi] at h;cases h
 | some i =>
  rw [hi] at h
  simp only [Option.bind_some] at h ⊢
  cases hz:i.zero with
  | none=>rw [hz] at h;cases h
  | some z =>
   rw [hz] at h
   simp only [Option.bind_some] at h ⊢
   cases hc:cellsA (toAV z) with
   | none=>rw [hc] at h;cases h
   | some zc =>
    rw [hc] at h
    simp only [Option.map_some,Option.some.injEq,Prod.mk.injEq] at h
    obtain ⟨e1,e2,e3⟩:=h
    subst e3
    simp only [Option.bind_some,e1,e2]
    rw [if_pos (by simp;omega)]
section
variable {S : Sums}
theorem idxR (hS:Sp S) {h:AH} {s:List Nat} {Q:AV→AH→Prop} (hq:Q (.int .i64 (idxA 47 s 0)) h):RnC Tryz.prog S 185 [.str s,.int .u8 47] h Q :=
 RnC.sum (v:=.int .i64 (idxA 47 s 0)) (h':=h) (by rw [hS.idx];rfl) hq
theorem cntR (hS:Sp S) {h:AH} {s:List Nat} {Q:AV→AH→Prop} (hq:Q (.int .i64 (cntA 47 s:Nat)) h):RnC Tryz.prog S 177 [.str s,.int .u8 47] h Q :=
 RnC.sum (v:=.int .i64 (cntA 47 s:Nat)) (h':=h) (by rw [hS.cnt];rfl) hq
theorem idxC1 (hS:Sp S) {h:AH} {s:List Nat}:RnC Tryz.prog S 181 [.str s,.int .u8 47] h fun r h'=>r=.int .i64 (idxA 47 s 0)∧h'=h:=by
 refine RnC.enter' Tryz.f181 _ 8 [.tmp 4] (hS.nu _ _ _ (by simp)) bd181 Tryz.func181 rfl rfl rfl ?_
 simp -dsimp (disch:=(repeat first | rw [nxn] | rw [nxp]);try omega) only [go_sem,evLen]
 refine callK_of (idxR (Q:=fun r h'=>r=.int .i64 (idxA 47 s 0)∧h'=h) hS ⟨rfl,rfl⟩) ?_
 rintro r h2 ⟨rfl,rfl⟩
 simp -dsimp (disch:=(repeat first | rw [nxn] | rw [nxp]);try omega) only [go_sem,evLen]
 exact ⟨trivial,trivial⟩
theorem eqS (h:AH) (a b:List Nat):binA Tryz.prog h .eql 9 (.str a) (.str b)=some (.bool (decide (a=b))):=by
 simp [binA,strA,eqL_eq]
theorem idxA_lt (k:Nat):∀(s:List Nat) (i:Nat),idxA k s i<i+s.length∨idxA k s i=-1
 | [],i=>.inr (by simp [idxA])
 | a::l,i=>by
  unfold idxA
  cases Nat.beq a k
  ·simp only [cond_false]
   rcases idxA_lt k l (i+1) with h1 | h1
   ·refine .inl ?_
    simp only [List.length_cons]
    omega
   ·exact .inr h1
  ·simp only [cond_true]
   exact .inl (by simp;omega)
theorem idxC2 (hS:Sp S) {h:AH} {s:List Nat}:RnC Tryz.prog S 178 [.str s,.str [47]] h fun r h'=>r=.int .i64 (idxA 47 s 0)∧h'=h:=by
 refine RnC.enter' Tryz.f178 _ 143 [.tmp 4] (hS.nu _ _ _ (by simp)) bd178 Tryz.func178 rfl rfl rfl ?_
 have c0:¬(1:Int)=0:=by decide
 by_cases e:[47]=s
 ·subst e
  simp -dsimp (disch:=(repeat first | rw [nxn] | rw [nxp]);try omega) only [go_sem,evLen,c0,eqS,ix47]
  exact ⟨by simp [idxA],trivial⟩
 ·simp -dsimp (disch:=(repeat first | rw [nxn] | rw [nxp]);try omega) only [go_sem,evLen,c0,eqS,ix47,e]
  refine callK_of (idxC1 hS) ?_
  rintro r h2 ⟨rfl,rfl⟩
  simp -dsimp (disch:=(repeat first | rw [nxn] | rw [nxp]);try omega) only [go_sem,evLen]
  exact ⟨trivial,trivial⟩
theorem idxC3 (hS:Sp S) {h:AH} {s:List Nat}:RnC Tryz.prog S 170 [.str s,.str [47]] h fun r h'=>r=.int .i64 (idxA 47 s 0)∧h'=h:=by
 refine RnC.enter' Tryz.f170 _ 8 [.tmp 4] (hS.nu _ _ _ (by simp)) bd170 Tryz.func170 rfl rfl rfl ?_
 simp -dsimp (disch:=(repeat first | rw [nxn] | rw [nxp]);try omega) only [go_sem,evLen]
 refine callK_of (idxC2 hS) ?_
 rintro r h2 ⟨rfl,rfl⟩
 simp -dsimp (disch:=(repeat first | rw [nxn] | rw [nxp]);try omega) only [go_sem,evLen]
 exact ⟨trivial,trivial⟩
theorem cntC (hS:Sp S) {h:AH} {s:List Nat}:RnC Tryz.prog S 169 [.str s,.str [47]] h fun r h'=>r=.int .i64 (cntA 47 s:Nat)∧h'=h:=by
 refine RnC.enter' Tryz.f169 _ 34 [.tmp 4] (hS.nu _ _ _ (by simp)) bd169 Tryz.func169 rfl rfl rfl ?_
 have c0:¬(1:Int)=0:=by decide
 simp -dsimp (disch:=(repeat first | rw [nxn] | rw [nxp]);try omega) only [go_sem,evLen,c0,ix47]
 refine callK_of (cntR (Q:=fun r h'=>r=.int .i64 (cntA 47 s:Nat)∧h'=h) hS ⟨rfl,rfl⟩) ?_
 rintro r h2 ⟨rfl,rfl⟩
 simp -dsimp (disch:=(repeat first | rw [nxn] | rw [nxp]);try omega) only [go_sem,evLen]
 exact ⟨trivial,trivial⟩
theorem cntA_le (k:Nat):∀s:List Nat,cntA k s≤s.length
 | []=>Nat.le_refl _
 | a::l=>by
  have:=cntA_le k l
  unfold cntA
  cases Nat.beq a k <;> simp <;> omega
theorem splC (hS:Sp S) {h:AH} {s:List Nat} (hl:s.length≤64):RnC Tryz.prog S 158 [.str s,.str [47],.int .i64 0,.int .i64 (-1)] h fun r h'=>Fr h h'∧∃id,r=.sl id 0 (splS s).length 1 (some (cntA 47 s+1))∧∃cs,h'.get id=some (.cells cs true false)∧cs.take (splS s).length=(splS s).map .str∧(splS s).length≤cs.length∧h.nx≤id∧id<h'.nx:=by
 refine RnC.enter' Tryz.f158 _ 66 [.tmp 8] (hS.nu _ _ _ (by simp)) bd158 Tryz.func158 rfl rfl rfl ?_
 have c0:¬(-1:Int)=0:=by decide
 have c1:(-1:Int)<0:=by decide
 have hcn:=cntA_le 47 s
 have e47:∀h,binA Tryz.prog h .eql 9 (.str [47]) (.str (bytesOf { data:=#[] }))=some (.bool false):=fun h=>eqS h _ _
 simp -dsimp (disch:=(repeat first | rw [nxn] | rw [nxp]);try omega) only [go_sem,evLen,c0,c1,e47]
 refine callK_of (cntC hS) ?_
 rintro r h2 ⟨rfl,rfl⟩
 have hmin:min (((cntA 47 s:Nat):Int)+1) (((s.length:Nat):Int)+1)=((cntA 47 s+1:Nat):Int):=by omega
 have hms:=ms51 (n:=cntA 47 s+1) (by omega)
 have hN:((cntA 47 s+1:Nat):Int)-1=((cntA 47 s:Nat):Int):=by omega
 have hz:((cntA 47 s+1)*1==0)=false:=by simp
 rw [hz] at hms
 simp -dsimp (disch:=(repeat first | rw [nxn] | rw [nxp]);try omega) only [go_sem,evLen,hmin,hms,hN]
 refine loopK_of (RnL.rounds (Q:=fun ex u=>ex=.exit 0∧u.d=[]∧Fr h2 u.h∧u.t.get 9=some (.sl h2.nx 0 (cntA 47 s+1) 1 (some (cntA 47 s+1)))∧∃(i:Nat) (s':List Nat) (cs:List AV) (done:List (List Nat)),u.t.get 10=some (.int .i64 (i:Nat))∧i≤cntA 47 s∧u.t.get 0=some (.str s')∧u.h.get h2.nx=some (.cells cs true false)∧cs.length=cntA 47 s+1∧cs.take i=done.map .str∧done.length=i∧done++[s']=splS s∧h2.nx<u.h.nx)
  (fun m u=>u.d=[]∧Fr h2 u.h∧u.t.get 1=some (.str [47])∧u.t.get 2=some (.int .i64 0)∧u.t.get 3=some (.int .i64 (cntA 47 s:Nat))∧u.t.get 9=some (.sl h2.nx 0 (cntA 47 s+1) 1 (some (cntA 47 s+1)))∧∃(i:Nat) (s':List Nat) (cs:List AV) (done:List (List Nat)),u.t.get 10=some (.int .i64 (i:Nat))∧i≤cntA 47 s∧u.t.get 0=some (.str s')∧u.h.get h2.nx=some (.cells cs true false)∧cs.length=cntA 47 s+1∧cs.take i=done.map .str∧done.length=i∧done++splF (cntA 47 s-i) s'=splS s∧h2.nx<u.h.nx∧s'.length≤64∧m=cntA 47 s-i) ?_ (cntA 47 s) ?_) ?_
 ·rintro m ⟨t,h1,d⟩ ⟨e2,e1,g1,g2,g3,g9,i,s',cs,done,g10,hi,g0,hg,hcl,hct,hdl,hsp,hnx,hsl,rfl⟩
  dsimp only at e1 e2 g0 g1 g2 g3 g9 g10 hg hnx
  subst e2
  by_cases c4:(i:Int)<(cntA 47 s:Nat)
  ·have hil:i<cntA 47 s:=by omega
   simp -dsimp (disch:=(repeat first | rw [nxn] | rw [nxp]);try omega) only [go_sem,evLen,c4,g0,g1,g2,g3,g9,g10]
   refine callK_of (idxC3 hS) ?_
   rintro r h3 ⟨rfl,rfl⟩
   obtain ⟨q,hq⟩:∃q,cntA 47 s-i=q+1:=⟨cntA 47 s-i-1,by omega⟩
   rw [hq] at hsp
   by_cases c5:idxA 47 s' 0<0
   ·simp -dsimp (disch:=(repeat first | rw [nxn] | rw [nxp]);try omega) only [go_sem,evLen,c4,c5,g0,g1,g2,g3,g9,g10]
    refine ⟨trivial,trivial,e1,trivial,i,s',cs,done,rfl,hi,rfl,hg,hcl,hct,hdl,?_,hnx⟩
    rw [←hsp]
    simp [splF,c5]
   ·obtain ⟨w,hw⟩:∃w:Nat,idxA 47 s' 0=(w:Int):=⟨(idxA 47 s' 0).toNat,by omega⟩
    have hws:w<s'.length:=by
     have:=idxA_lt 47 s' 0
     omega
    have c6:¬((w:Int)<0):=by omega
    have t1:∀g,evSlice Tryz.prog g 9 (.str s') none (some (.int .i64 ((w:Int)+0))) none=some (.str (s'.take w)):=fun g=>by
     rw [Int.add_zero];exact slSto Tryz.underlying9 g (by omega)
    have t2:∀g,evSlice Tryz.prog g 9 (.str s') (some (.int .i64 ((w:Int)+1))) none none=some (.str (s'.drop (w+1))):=fun g=>slSfr (m:=w+1) Tryz.underlying9 g (by omega)
    have hsp2:done++s'.take w::splF q (s'.drop (w+1))=splS s:=by
     rw [←hsp]
     simp [splF,hw]
     omega
    have hil2:i<cntA 47 s+1:=by omega
    simp -dsimp (disch:=(repeat first | rw [nxn] | rw [nxp]);try omega) only [go_sem,evLen,c4,c5,c6,hw,t1,t2,hg,hcl,hil2,hi,Nat.mul_one,g0,g1,g2,g3,g9,g10]
    have hct2:(cs.take i).length=i:=by rw [List.length_take];omega
    refine ⟨q,by omega,trivial,e1.put _ (by omega),trivial,trivial,trivial,trivial,i+1,_,_,done++[s'.take w],rfl,by omega,rfl,rfl,?_,?_,by simp [hdl],?_,hnx,by rw [List.length_drop];omega,by omega⟩
    ·simp [hct2,hcl];omega
    ·rw [List.take_append_of_le_length (by simp [hct2]),List.take_of_length_le (by simp [hct2]),hct,List.map_append]
     rfl
    ·rw [show cntA 47 s-(i+1)=q by omega,←hsp2]
     simp
  ·have:i=cntA 47 s:=by omega
   subst this
   rw [Nat.sub_self] at hsp
   simp -dsimp (disch:=(repeat first | rw [nxn] | rw [nxp]);try omega) only [go_sem,evLen,c4,g0,g1,g2,g3,g9,g10]
   exact ⟨trivial,trivial,e1,trivial,cntA 47 s,s',cs,done,rfl,hi,rfl,hg,hcl,hct,hdl,hsp,hnx⟩
 ·simp -dsimp (disch:=(repeat first | rw [nxn] | rw [nxp]);try omega) only [go_sem,evLen]
  exact ⟨trivial,Fr.new _ _,trivial,trivial,trivial,trivial,0,s,_,[],rfl,Nat.zero_le _,rfl,rfl,by simp [rep_len],rfl,rfl,rfl,Nat.lt_succ_self _,hl,by omega⟩
 ·rintro ex ⟨t,h1,d⟩ ⟨rfl,rfl,e1,g9,i,s',cs,done,g10,hi,g0,hg,hcl,hct,hdl,hsp,hnx⟩
  dsimp only at e1 g0 g9 g10 hg hnx
  have hil2:i<cntA 47 s+1:=by omega
  have hsl2:∀g,evSlice Tryz.prog g 66 (.sl h2.nx 0 (cntA 47 s+1) 1 (some (cntA 47 s+1))) none (some (.int .i64 ((i:Int)+1))) none=some (.sl h2.nx 0 (i+1) 1 (some (cntA 47 s+1))):=fun g=>by
   have hu:upTo (((i+1:Nat)):Int) (cntA 47 s+1)=some (i+1):=by rw [upTo_of (by omega) (by omega)];simp
   have hu2:upTo ((i:Int)+1) (cntA 47 s+1)=some (i+1):=hu
   simp [evSlice,Tryz.underlying66,tz9,boundsA,boundA,hu2]
  simp -dsimp (disch:=(repeat first | rw [nxn] | rw [nxp]);try omega) only [go_sem,evLen,hg,hcl,hil2,hi,hsl2,Nat.mul_one,g0,g9,g10]
  have hct2:(cs.take i).length=i:=by rw [List.length_take];omega
  have hln:(splS s).length=i+1:=by rw [←hsp];simp [hdl]
  refine ⟨e1.put _ (Nat.le_refl _),_,?_,_,AH.get_put_eq rfl,?_,?_,Nat.le_refl _,hnx⟩
  ·rw [hln]
  ·rw [hln,List.take_append_of_le_length (by simp [hct2]),List.take_of_length_le (by simp [hct2]),hct,←hsp,List.map_append]
   rfl
  ·rw [hln]
   simp [hct2] <;> omega
theorem split2 (hS:Sp S) {h:AH} {s:List Nat} (hl:s.length≤64):RnC Tryz.prog S 129 [.str s,.str [47]] h fun r h'=>Fr h h'∧∃id,r=.sl id 0 (splS s).length 1 (some (cntA 47 s+1))∧∃cs,h'.get id=some (.cells cs true false)∧cs.take (splS s).length=(splS s).map .str∧(splS s).length≤cs.length∧h.nx≤id∧id<h'.nx:=by
 refine RnC.enter' Tryz.f129 _ 8 [.tmp 4] (hS.nu _ _ _ (by simp)) bd129 Tryz.func129 rfl rfl rfl ?_
 simp -dsimp (disch:=(repeat first | rw [nxn] | rw [nxp]);try omega) only [go_sem,evLen]
 refine callK_of (splC hS hl) ?_
 rintro r h2 ⟨h3,id,rfl,h4⟩
 exact ⟨h3,id,rfl,h4⟩
theorem splF_len:∀(n:Nat) (s:List Nat) ,(∀x∈splF n s,x.length≤s.length)∧(splF n s).length≤n+1
 | 0,s=>⟨fun x hx=>by rw [List.mem_singleton.1 hx];exact Nat.le_refl _,Nat.le_refl _⟩
 | n+1,s=>by
  unfold splF
  split
  ·exact ⟨fun x hx=>by rw [List.mem_singleton.1 hx];exact Nat.le_refl _,by simp⟩
  ·obtain ⟨h1,h2⟩:=splF_len n (s.drop ((idxA 47 s 0).toNat+1))
   refine ⟨fun x hx=>?_,by simp;omega⟩
   rcases List.mem_cons.1 hx with rfl | hx
   ·simp;omega
   ·have:=h1 x hx
    rw [List.length_drop] at this
    omega
theorem rightC (hS:Sp S) {h:AH} {s:List Nat} (hl:s.length≤64):RnC Tryz.prog S 89 [.str s] h fun r h'=>r=.bool (rightS s)∧Fr h h':=by
 refine RnC.enter' Tryz.f89 _ 26 [.tmp 2] (hS.nu _ _ _ (by simp)) bd89 Tryz.func89 rfl rfl rfl ?_
 simp -dsimp (disch:=(repeat first | rw [nxn] | rw [nxp]);try omega) only [go_sem,evLen]
 refine callK_of (split2 hS hl) ?_
 rintro r h2 ⟨hf,id,rfl,cs,hg,hct,hcl,hid,hnx⟩
 have hlen:(splS s).length≤65:=by
  have h1:=(splF_len (cntA 47 s) s).2
  have h2:=cntA_le 47 s
  show (splF (cntA 47 s) s).length≤65
  omega
 simp -dsimp (disch:=(repeat first | rw [nxn] | rw [nxp]);try omega) only [go_sem,evLen]
 refine loopK_of (RnL.rounds (Q:=fun ex u=>u.d=[]∧Fr h2 u.h∧u.t.get 0=some (.str s)∧u.t.get 3=some (.sl id 0 (splS s).length 1 (some (cntA 47 s+1)))∧(ex=.exit 0∧(splS s).all nameOK=true∨ex=.ret∧(splS s).all nameOK=false∧u.t.get 2=some (.bool false)))
  (fun m u=>u.d=[]∧Fr h2 u.h∧u.t.get 0=some (.str s)∧u.t.get 3=some (.sl id 0 (splS s).length 1 (some (cntA 47 s+1)))∧u.t.get 8=some (.sl id 0 (splS s).length 1 (some (cntA 47 s+1)))∧u.t.get 9=some (.int .i64 ((splS s).length:Nat))∧∃i:Nat,u.t.get 10=some (.int .i64 (i:Nat))∧i≤(splS s).length∧((splS s).take i).all nameOK=true∧m=(splS s).length-i) ?_ (splS s).length ?_) ?_
 ·rintro m ⟨t,h1,d⟩ ⟨e2,e1,g0,g3,g8,g9,i,g10,hi,hall,rfl⟩
  dsimp only at e1 e2 g0 g3 g8 g9 g10
  subst e2
  by_cases c4:(i:Int)<((splS s).length:Nat)
  ·have hil:i<(splS s).length:=by omega
   obtain ⟨a,ha⟩:∃a,(splS s)[i]? = some a:=⟨_,List.getElem?_eq_getElem hil⟩
   have hcs:cs[i]? = some (.str a):=by
    have:(cs.take (splS s).length)[i]? = some (.str a):=by rw [hct,List.getElem?_map,ha];rfl
    rw [List.getElem?_take_of_lt hil] at this
    exact this
   have hg1:h1.get id=some (.cells cs true false):=(e1.get id hnx).trans hg
   have hal:a.length≤4611686018427387904:=by
    have:=(splF_len (cntA 47 s) s).1 a (List.mem_iff_getElem?.2 ⟨i,ha⟩)
    omega
   have htk:(splS s).take (i+1)=(splS s).take i++[a]:=by rw [List.take_add_one,ha];rfl
   simp -dsimp (disch:=(repeat first | rw [nxn] | rw [nxp]);try omega) only [go_sem,evLen,c4,hg1,hcs,hil,Nat.mul_one,g0,g3,g8,g9,g10]
   refine callK_of (nameC hS hal) ?_
   rintro r h3 ⟨rfl,rfl⟩
   cases hc:nameOK a
   ·simp -dsimp (disch:=(repeat first | rw [nxn] | rw [nxp]);try omega) only [go_sem,evLen,c4,hg1,hcs,hil,Nat.mul_one,g0,g3,g8,g9,g10]
    refine ⟨trivial,e1,trivial,trivial,.inr ⟨trivial,?_,trivial⟩⟩
    rw [List.all_eq_false]
    exact ⟨a,List.mem_iff_getElem?.2 ⟨i,ha⟩,by simp [hc]⟩
   ·simp -dsimp (disch:=(repeat first | rw [nxn] | rw [nxp]);try omega) only [go_sem,evLen,c4,hg1,hcs,hil,Nat.mul_one,g0,g3,g8,g9,g10]
    exact ⟨(splS s).length-(i+1),by omega,trivial,e1,trivial,trivial,trivial,trivial,i+1,rfl,by omega,by rw [htk,List.all_append,hall];simp [hc],rfl⟩
  ·have:i=(splS s).length:=by omega
   subst this
   rw [List.take_length] at hall
   simp -dsimp (disch:=(repeat first | rw [nxn] | rw [nxp]);try omega) only [go_sem,evLen,c4,g0,g3,g8,g9,g10]
   exact ⟨trivial,e1,trivial,trivial,.inl ⟨trivial,hall⟩⟩
 ·simp -dsimp (disch:=(repeat first | rw [nxn] | rw [nxp]);try omega) only [go_sem,evLen]
  exact ⟨trivial,Fr.refl _,trivial,trivial,trivial,trivial,0,rfl,Nat.zero_le _,by simp,rfl⟩
 ·rintro ex ⟨t,h1,d⟩ ⟨e2,e1,g0,g3,⟨rfl,hh⟩ | ⟨rfl,hh,g2⟩⟩
  ·dsimp only at e1 e2 g0 g3
   subst e2
   by_cases c5:(((splS s).length:Nat):Int)≤4
   ·have c6:((s.length:Nat):Int)≤64:=by omega
    simp -dsimp (disch:=(repeat first | rw [nxn] | rw [nxp]);try omega) only [go_sem,evLen,c5,c6,g0,g3]
    refine ⟨?_,hf.trans e1⟩
    have c5':(splS s).length≤4:=by omega
    simp [rightS,hh,c5',hl]
   ·simp -dsimp (disch:=(repeat first | rw [nxn] | rw [nxp]);try omega) only [go_sem,evLen,c5,g0,g3]
    refine ⟨?_,hf.trans e1⟩
    have c5':¬(splS s).length≤4:=by omega
    simp [rightS,hh,c5']
  ·dsimp only at e1 e2 g2
   subst e2
   simp -dsimp (disch:=(repeat first | rw [nxn] | rw [nxp]);try omega) only [go_sem,evLen,g2]
   refine ⟨?_,hf.trans e1⟩
   simp [rightS,hh]
theorem checkC (hS:Sp S) {h:AH} {s:List Nat}:RnC Tryz.prog S 55 [.str s] h fun r h'=>r=.int .i64 (checkS s:Nat)∧Fr h h':=by
 refine RnC.enter' Tryz.f55 _ 11 [.tmp 2] (hS.nu _ _ _ (by simp)) bd55 Tryz.func55 rfl rfl rfl ?_
 by_cases c:(64:Int)<((s.length:Nat):Int)
 ·simp -dsimp (disch:=(repeat first | rw [nxn] | rw [nxp]);try omega) only [go_sem,evLen,c]
  have c':64<s.length:=by omega
  simp only [checkS,c',if_true]
  exact ⟨rfl,Fr.refl _⟩
 ·have c':¬64<s.length:=by omega
  simp -dsimp (disch:=(repeat first | rw [nxn] | rw [nxp]);try omega) only [go_sem,evLen,c]
  refine callK_of (rightC hS (by omega)) ?_
  rintro r h2 ⟨rfl,hf⟩
  cases hr:rightS s
  ·simp -dsimp (disch:=(repeat first | rw [nxn] | rw [nxp]);try omega) only [go_sem,evLen,c]
   simp only [checkS,c',if_false,hr,if_true]
   exact ⟨rfl,hf⟩
  ·simp -dsimp (disch:=(repeat first | rw [nxn] | rw [nxp]);try omega) only [go_sem,evLen,c]
   simp only [checkS,c',if_false,hr]
   exact ⟨rfl,hf⟩
theorem preC (hS:Sp S) {h:AH} {s p:List Nat}:RnC Tryz.prog S 179 [.str s,.str p] h fun r h'=>r=.bool (preS s p)∧h'=h:=by
 refine RnC.enter' Tryz.f179 _ 18 [.tmp 4] (hS.nu _ _ _ (by simp)) bd179 Tryz.func179 rfl rfl rfl ?_
 by_cases c:((p.length:Nat):Int)≤((s.length:Nat):Int)
 ·have t1:∀g,evSlice Tryz.prog g 9 (.str s) none (some (.int .i64 (p.length:Nat))) none=some (.str (s.take p.length)):=fun g=>slSto Tryz.underlying9 g (by omega)
  simp -dsimp (disch:=(repeat first | rw [nxn] | rw [nxp]);try omega) only [go_sem,evLen,c,t1,eqS]
  exact ⟨rfl,trivial⟩
 ·simp -dsimp (disch:=(repeat first | rw [nxn] | rw [nxp]);try omega) only [go_sem,evLen,c]
  have:¬s.take p.length=p:=fun hh=>by
   have:=congrArg List.length hh
   rw [List.length_take] at this
   omega
  simp [preS,this]
theorem cutC (hS:Sp S) {h:AH} {s p:List Nat}:RnC Tryz.prog S 171 [.str s,.str p] h fun r h'=>r=.tup [.str (if preS s p=true then s.drop p.length else s),.bool (preS s p)]∧h'=h:=by
 refine RnC.enter' Tryz.f171 _ 15 [.tmp 4,.tmp 5] (hS.nu _ _ _ (by simp)) bd171 Tryz.func171 rfl rfl rfl ?_
 simp -dsimp (disch:=(repeat first | rw [nxn] | rw [nxp]);try omega) only [go_sem,evLen]
 refine callK_of (preC hS) ?_
 rintro r h2 ⟨rfl,rfl⟩
 cases hp:preS s p
 ·simp -dsimp (disch:=(repeat first | rw [nxn] | rw [nxp]);try omega) only [go_sem,evLen]
  exact ⟨by simp,trivial⟩
 ·have hl:p.length≤s.length:=by
   have h1:s.take p.length=p:=by simpa [preS] using hp
   have:=congrArg List.length h1
   rw [List.length_take] at this
   omega
  have t1:∀g,evSlice Tryz.prog g 9 (.str s) (some (.int .i64 (p.length:Nat))) none none=some (.str (s.drop p.length)):=fun g=>slSfr Tryz.underlying9 g hl
  simp -dsimp (disch:=(repeat first | rw [nxn] | rw [nxp]);try omega) only [go_sem,evLen,t1]
  exact ⟨by simp,trivial⟩
theorem cutC2 (hS:Sp S) {h:AH} {s p:List Nat}:RnC Tryz.prog S 159 [.str s,.str p] h fun r h'=>r=.tup [.str (if preS s p=true then s.drop p.length else s),.bool (preS s p)]∧h'=h:=by
 refine RnC.enter' Tryz.f159 _ 11 [.tmp 4,.tmp 5] (hS.nu _ _ _ (by simp)) bd159 Tryz.func159 rfl rfl rfl ?_
 simp -dsimp (disch:=(repeat first | rw [nxn] | rw [nxp]);try omega) only [go_sem,evLen]
 refine callK_of (cutC hS) ?_
 rintro r h2 ⟨rfl,rfl⟩
 simp -dsimp (disch:=(repeat first | rw [nxn] | rw [nxp]);try omega) only [go_sem,evLen]
 exact ⟨trivial,trivial⟩
theorem tempedC (hS:Sp S) {h:AH} {s:List Nat}:RnC Tryz.prog S 134 [.str s] h fun r h'=>(∃x,r=.tup [.str x,.bool (tempedS s)])∧Fr h h':=by
 refine RnC.enter' Tryz.f134 _ 19 [.tmp 2,.tmp 3] (hS.nu _ _ _ (by simp)) bd134 Tryz.func134 rfl rfl rfl ?_
 simp -dsimp (disch:=(repeat first | rw [nxn] | rw [nxp]);try omega) only [go_sem,evLen]
 have eb:∀x:List Nat,x=tmpS→x=tmpS:=fun _ h=>h
 refine callK_of (cutC2 (p:=tmpS) hS) ?_
 rintro r h2 ⟨rfl,rfl⟩
 cases hp:preS s tmpS
 ·simp -dsimp (disch:=(repeat first | rw [nxn] | rw [nxp]);try omega) only [go_sem,evLen]
  exact ⟨⟨_,by simp [tempedS,hp];rfl⟩,Fr.refl _⟩
 ·simp -dsimp (disch:=(repeat first | rw [nxn] | rw [nxp]);try omega) only [go_sem,evLen,if_true]
  refine callK_of (checkC hS) ?_
  rintro r h3 ⟨rfl,hf⟩
  by_cases c:((checkS (s.drop 5):Nat):Int)=0
  ·have c':checkS (s.drop 5)=0:=by omega
   have e5:s.drop tmpS.length=s.drop 5:=rfl
   simp -dsimp (disch:=(repeat first | rw [nxn] | rw [nxp]);try omega) only [go_sem,evLen,c,e5]
   exact ⟨⟨_,by simp [tempedS,hp,c'];rfl⟩,hf⟩
  ·have c':¬checkS (s.drop 5)=0:=by omega
   have e5:s.drop tmpS.length=s.drop 5:=rfl
   simp -dsimp (disch:=(repeat first | rw [nxn] | rw [nxp]);try omega) only [go_sem,evLen,c,e5]
   exact ⟨⟨_,by simp [tempedS,hp,c'];rfl⟩,hf⟩
end
theorem ai5:appI Tryz.prog 5=some (1,1):=by kernel_rfl
def Bn (n0:Nat) (h:AH) (v:AV) (l:List Nat):Prop:=(v=.nilsl∧l=[])∨Bo n0 h v l
theorem Bn.bs {n0:Nat} {h:AH} {v:AV} {l:List Nat} (hb:Bn n0 h v l):Bs h v l:=by
 rcases hb with h1 | h1
 ·exact .inl h1
 ·exact h1.bs
theorem Bn.shape {n0:Nat} {h:AH} {v:AV} {l:List Nat} (hb:Bn n0 h v l):v=.nilsl∨∃a n c,v=.sl a 0 n 1 c:=by
 rcases hb with h1 | ⟨id,c,cs,tx,h1,_⟩
 ·exact .inl h1.1
 ·exact .inr ⟨_,_,_,h1⟩
theorem Bn.fr {n0:Nat} {h h':AH} {v:AV} {l:List Nat} (hb:Bn n0 h v l) (hf:Fr h h'):Bn n0 h' v l:=by
 rcases hb with h1 | h1
 ·exact .inl h1
 ·exact .inr (h1.fr hf)
theorem Bn.app {h0 h:AH} {v x:AV} {l m:List Nat} (hb:Bn h0.nx h v l) (hx:Bs h x m) (hf:Fr h0 h) (hl:l.length+m.length≤1073741824) :
  ∃v' h',evAppend Tryz.prog h #[87,87] v x=some (.val v' h')∧Fr h0 h'∧Bn h0.nx h' v' (l++m):=by
 rcases hb with ⟨rfl,rfl⟩ | hb
 ·obtain ⟨hn,hnew⟩:=hx.first
  rw [evAppend_eq (len:=0) (old:=[]) Tryz.underlying87 Tryz.underlying87 rfl ai5 hn hnew rfl rfl (byC_all m) (by omega) (by omega) rfl]
  by_cases hm:m.length=0
  ·rw [if_pos hm]
   have:m=[]:=List.length_eq_zero_iff.1 hm
   subst this
   exact ⟨_,_,rfl,hf,.inl ⟨rfl,rfl⟩⟩
  ·rw [if_neg hm]
   exact ⟨_,_,rfl,hf.news _,.inr ⟨h.nx,none,byC m,false,by simp,AH.get_new_eq rfl,Nat.lt_succ_self _,hf.nx,by rw [List.nil_append,←byC_length m,List.take_length],by rw [List.nil_append,byC_length];exact Nat.le_refl _,.inl rfl⟩⟩
 ·obtain ⟨v',h',h1,h2,h3⟩:=Bo.app Tryz.underlying87 ai5 hb hx hf (by omega)
  exact ⟨v',h',h1,h2,.inr h3⟩
theorem bsLn {h:AH} {v:AV} {l:List Nat} (hb:Bs h v l):(∀g,evLen Tryz.prog g #[87] v=some (.int .i64 (l.length:Nat)))∧sameAV 20 v v=true∧oneA v=true:=by
 rcases hb with ⟨rfl,rfl⟩ | ⟨id,off,c,cs,o,t,rfl,_⟩
 ·exact ⟨fun g=>by simp [evLen,Tryz.underlying87],rfl,rfl⟩
 ·exact ⟨fun g=>by simp [evLen,Tryz.underlying87],by simp [sameAV],rfl⟩
theorem bsCells {h:AH} {v:AV} {l:List Nat} (hb:Bs h v l):cellsA v=some [v]:=by
 rcases hb with ⟨rfl,rfl⟩ | ⟨id,off,c,cs,o,t,rfl,_⟩ <;> rfl
theorem eqNs (h:AH):binA Tryz.prog h .eql 87 .nilsl .nilsl=some (.bool true):=by kernel_rfl
theorem eqSs (h:AH) (i o n z:Nat) (c:Option Nat):binA Tryz.prog h .eql 87 (.sl i o n z c) .nilsl=some (.bool false):=by kernel_rfl
theorem snil (h:AH):evSlice Tryz.prog h 87 .nilsl none (some (.int .i64 0)) none=some .nilsl:=by
 simp [evSlice,Tryz.underlying87,tz5,boundsA,boundA,upTo]
theorem rep_all5 (n:Nat):(repCells [AV.int .u8 0] n).all oneA=true:=by
 induction n with
 | zero=>rfl
 | succ n ih=>simp [repCells,ih,oneA]
theorem grow {h:AH} {n:Nat} (hn:n≤274877906944) (h0:n≠0):evAppend Tryz.prog h #[87,3] .nilsl (.int .i64 (n:Nat))=some (.val (.sl h.nx 0 n 1 none) (h.new (.cells (repCells [.int .u8 0] n) true false))):=by
 have hi:∃i z,Tryz.prog.info? 5=some i∧i.zero=some z∧cellsA (toAV z)=some [.int .u8 0]∧i.size=1∧i.bytes=1:=by
  have hk:(match Tryz.prog.info? 5 with | some i=>(match i.zero with | some (.int .u8 0)=>true | _=>false)&&(Nat.beq i.size 1&&Nat.beq i.bytes 1) | none=>false)=true:=by kernel_rfl
  split at hk
  ·rename_i i hi
   rw [Bool.and_eq_true,Bool.and_eq_true] at hk
   obtain ⟨k1,k2,k3⟩:=hk
   split at k1
   ·rename_i hz
    exact ⟨i,_,hi,hz,rfl,Nat.eq_of_beq_eq_true k2,Nat.eq_of_beq_eq_true k3⟩
   ·cases k1
  ·cases hk
 obtain ⟨i,z,h1,h2,h3,h4,h5⟩:=hi
 have hcast:((n:Nat):Int)=Int.ofNat n:=rfl
 rw [hcast]
 unfold evAppend
 simp only [List.getElem?_toArray,List.getElem?_cons_zero,List.getElem?_cons_succ,Option.bind_eq_bind,Option.bind_some,Tryz.underlying87,h1,h2,h3,h4,h5]
 rw [if_neg (by simp)]
 have hap:appendedA Tryz.prog h i [.int .u8 0] 3 (.int .i64 (Int.ofNat n))=some (n,repCells [.int .u8 0] n):=by
  unfold appendedA
  simp only [Tryz.underlying3,Option.bind_eq_bind,Option.bind_some,h5]
  rw [if_pos (by simp;omega)]
 simp only [hap,Option.bind_some,lenA,firstA]
 simp only [if_true,Option.bind_some]
 rw [if_neg h0,if_neg (by simp [rep_all5]),if_neg (by simp;omega)]
 rfl
section
variable {S : Sums}
structure St (S:Sums):Prop extends Sp S where
 nt:∀f args h,f∈[51,53,87,120,142,8,93,95,71,99,98,21,56,70,18,100,48,102,131,118,132,47,133,39,46,50,52,58,119,61,103]→S f args h=none
 used:∀args h,S 141 args h=sumUsed args h
 clone:∀args h,S 83 args h=sumClone args h
 sorted:∀args h,S 49 args h=sumSorted 86 args h
theorem cloneC (hS:St S) {h:AH} {v:AV} {l:List Nat} (hb:Bs h v l) (hl:l.length≤1073741824):RnC Tryz.prog S 51 [v] h fun r h'=>Bn h.nx h' r l∧Fr h h':=by
 refine RnC.enter' Tryz.f51 _ 8 [.tmp 2] (hS.nt _ _ _ (by simp)) bd51 Tryz.func51 rfl rfl rfl ?_
 have hb0:=hb
 rcases hb with ⟨rfl,rfl⟩ | ⟨id,off,c,cs,o,t,rfl,h2,h3,h4⟩
 ·simp -dsimp only [go_sem,evLen,eqNs,eqSs]
  exact ⟨.inl ⟨rfl,rfl⟩,Fr.refl _⟩
 ·obtain ⟨v2,h2,ha,hf,hb2⟩:=Bo.app (h0:=h) (h:=h.new (.cells [] true true)) (v:=.sl h.nx 0 0 1 (some 0)) (l:=[]) Tryz.underlying87 ai5 ⟨h.nx,some 0,[],true,rfl,AH.get_new_eq rfl,Nat.lt_succ_self _,Nat.le_refl _,rfl,Nat.le_refl _,.inr rfl⟩ (hb0.fr (Fr.new _ _)) (Fr.new _ _) (by simp;omega)
  simp -dsimp only [go_sem,evLen,ha,eqNs,eqSs]
  exact ⟨.inr (by simpa using hb2),hf⟩
theorem equalC (hS:St S) {h:AH} {v w:AV} {l m:List Nat} (hv:Bs h v l) (hw:Bs h w m) (hl:∀b∈l,b<256) (hm:∀b∈m,b<256):RnC Tryz.prog S 53 [v,w] h fun r h'=>r=.bool (decide (l=m))∧h'=h:=by
 refine RnC.enter' Tryz.f53 _ 10 [.tmp 4] (hS.nt _ _ _ (by simp)) bd53 Tryz.func53 rfl rfl rfl ?_
 have t1:=hv.text Tryz.underlying87 Tryz.underlying5 Tryz.underlying9 hl
 have t2:=hw.text Tryz.underlying87 Tryz.underlying5 Tryz.underlying9 hm
 simp -dsimp only [go_sem,evLen,t1,t2,eqS]
 exact ⟨trivial,trivial⟩
theorem bprefC (hS:St S) {h:AH} {v w:AV} {l m:List Nat} (hv:Bs h v l) (hw:Bs h w m) (hl:∀b∈l,b<256) (hm:∀b∈m,b<256):RnC Tryz.prog S 87 [v,w] h fun r h'=>r=.bool (decide (l.take m.length=m))∧h'=h:=by
 refine RnC.enter' Tryz.f87 _ 18 [.tmp 4] (hS.nt _ _ _ (by simp)) bd87 Tryz.func87 rfl rfl rfl ?_
 obtain ⟨lv,_,ov⟩:=bsLn hv
 obtain ⟨lw,_,ow⟩:=bsLn hw
 by_cases c:((m.length:Nat):Int)≤((l.length:Nat):Int)
 ·obtain ⟨x,t1,hx,_,ox⟩:=hv.slice_to (hi:=m.length) Tryz.underlying87 tz5 (by omega)
  simp -dsimp only [go_sem,c,lv,lw,ov,ow,t1,ox]
  refine callK_of (equalC hS hx hw (fun b hb=>hl b (List.mem_of_mem_take hb)) hm) ?_
  rintro r h2 ⟨rfl,rfl⟩
  simp -dsimp only [go_sem]
  exact ⟨trivial,trivial⟩
 ·simp -dsimp only [go_sem,c,lv,lw,ov,ow]
  have:¬l.take m.length=m:=fun hh=>by
   have:=congrArg List.length hh
   rw [List.length_take] at this
   omega
  simp [this]
theorem growC (hS:St S) {h:AH} {n:Nat} (hn:n≤1073741824):RnC Tryz.prog S 142 [.nilsl,.int .i64 (n:Nat)] h fun r h'=>Bn h.nx h' r []∧Fr h h':=by
 refine RnC.enter' Tryz.f142 _ 27 [.tmp 4] (hS.nt _ _ _ (by simp)) bd142 Tryz.func142 rfl rfl rfl ?_
 have c1:¬((n:Nat):Int)<0:=by omega
 have e0:((n:Nat):Int)-0=((n:Nat):Int):=by omega
 by_cases h0:n=0
 ·subst h0
  simp -dsimp (disch:=(repeat first | rw [nxn] | rw [nxp]);try omega) only [go_sem,evLen,e0,evCap]
  exact ⟨.inl ⟨rfl,rfl⟩,Fr.refl _⟩
 ·have c2:(0:Int)<((n:Nat):Int):=by omega
  have sl0:∀h1,evSlice Tryz.prog h1 87 (.sl h.nx 0 n 1 none) none (some (.int .i64 0)) none=some (.sl h.nx 0 0 1 none):=fun h1=>by
   simp [evSlice,Tryz.underlying87,tz5,boundsA,boundA,upTo]
  simp -dsimp (disch:=(repeat first | rw [nxn] | rw [nxp]);try omega) only [go_sem,evLen,c1,c2,e0,evCap,snil,grow (show n≤274877906944 by omega) h0,sl0]
  exact ⟨.inr ⟨h.nx,none,_,false,rfl,AH.get_new_eq rfl,Nat.lt_succ_self _,Nat.le_refl _,rfl,Nat.zero_le _,.inl rfl⟩,Fr.new _ _⟩
theorem concatC (hS:St S) {h:AH} {id:Nat} {c:Option Nat} {o t:Bool} {x y:AV} {l m:List Nat} (hg:h.get id=some (.cells [x,y] o t)) (hid:id<h.nx) (hx:Bs h x l) (hy:Bs h y m) (hl:l.length+m.length≤1073741824) :
  RnC Tryz.prog S 120 [.sl id 0 2 1 c] h fun r h'=>Bn h.nx h' r (l++m)∧Fr h h':=by
 refine RnC.enter' Tryz.f120 _ 36 [.tmp 2] (hS.nt _ _ _ (by simp)) bd120 Tryz.func120 rfl rfl rfl ?_
 have c1:¬((l.length:Nat):Int)<0:=by omega
 have c2:¬((l.length:Nat):Int)+((m.length:Nat):Int)<0:=by omega
 have e1:((l.length:Nat):Int)+((m.length:Nat):Int)=((l.length+m.length:Nat):Int):=by omega
 obtain ⟨lx,_,ox⟩:=bsLn hx
 obtain ⟨ly,_,oy⟩:=bsLn hy
 have ll:∀g,evLen Tryz.prog g #[177] (.sl id 0 2 1 c)=some (.int .i64 2):=fun g=>by simp [evLen,Tryz.underlying177]
 simp -dsimp (disch:=(repeat first | rw [nxn] | rw [nxp]);try omega) only [go_sem,ll]
 refine loopK_unroll ?_
 simp -dsimp (disch:=(repeat first | rw [nxn] | rw [nxp]);try omega) only [go_sem,hg,lx,ox,c1,Int.zero_add]
 refine loopK_unroll ?_
 simp -dsimp (disch:=(repeat first | rw [nxn] | rw [nxp]);try omega) only [go_sem,hg,ly,oy,c2,Int.zero_add]
 refine loopK_unroll ?_
 simp -dsimp only [go_sem,e1]
 refine callK_of (growC (n:=l.length+m.length) hS hl) ?_
 rintro r h1 ⟨hb1,hf1⟩
 try simp -dsimp only [go_sem]
 have hg1:h1.get id=some (.cells [x,y] o t):=(hf1.get id hid).trans hg
 obtain ⟨v2,h2,ha2,hf2,hb2⟩:=Bn.app hb1 (hx.fr hf1) hf1 (by simp;omega)
 rw [List.nil_append] at hb2
 have hg2:h2.get id=some (.cells [x,y] o t):=(hf2.get id hid).trans hg
 obtain ⟨v3,h3,ha3,hf3,hb3⟩:=Bn.app hb2 (hy.fr hf2) hf2 hl
 have o2:=(bsLn hb2.bs).2.2
 have o3:=(bsLn hb3.bs).2.2
 have o1:=(bsLn hb1.bs).2.2
 simp -dsimp only [go_sem,ll,o1]
 refine loopK_unroll ?_
 simp -dsimp only [go_sem,hg1,ox,ha2,o1,o2]
 refine loopK_unroll ?_
 simp -dsimp only [go_sem,hg2,oy,ha3,o2,o3]
 refine loopK_unroll ?_
 simp -dsimp only [go_sem,o3]
 exact ⟨hb3,hf3⟩
end
def By (K:Nat→Nat) (h:AH) (v:AV) (l:List Nat):Prop :=
 (v=.nilsl∧l=[])∨∃id c cs tx,v=.sl id 0 l.length 1 c∧h.get id=some (.cells cs true tx)∧id<h.nx∧K id=5∧cs.take l.length=byC l∧l.length≤cs.length∧(c=none∨c=some l.length)
theorem By.bs {K:Nat→Nat} {h:AH} {v:AV} {l:List Nat} (hb:By K h v l):Bs h v l:=by
 rcases hb with h1 | ⟨id,c,cs,tx,h1,h2,h3,h4,h5,h6,h7⟩
 ·exact .inl h1
 ·exact (show Bo 0 h v l from ⟨id,c,cs,tx,h1,h2,h3,Nat.zero_le _,h5,h6,h7⟩).bs
theorem By.mono {K K':Nat→Nat} {h h':AH} {v:AV} {l:List Nat} (hb:By K h v l) (hk:∀j,K j=5→K' j=5∧h'.get j=h.get j) (hn:h.nx≤h'.nx):By K' h' v l:=by
 rcases hb with h1 | ⟨id,c,cs,tx,h1,h2,h3,h4,h5⟩
 ·exact .inl h1
 ·exact .inr ⟨id,c,cs,tx,h1,(hk id h4).2.trans h2,Nat.lt_of_lt_of_le h3 hn,(hk id h4).1,h5⟩
theorem Bn.by {n0:Nat} {K:Nat→Nat} {h:AH} {v:AV} {l:List Nat} (hb:Bn n0 h v l) (hk:∀j,n0≤j→j<h.nx→K j=5):By K h v l:=by
 rcases hb with h1 | ⟨id,c,cs,tx,h1,h2,h3,h4,h5⟩
 ·exact .inl h1
 ·exact .inr ⟨id,c,cs,tx,h1,h2,h3,hk id h4 h3,h5⟩
def fpt (ρ:Nat→Nat) (i:Nat):AV:=.ptr (ρ i) 0
def Clo (K:Nat→Nat) (h:AH) (ρ:Nat→Nat) (v:AV):Nte→Prop
 | .mk p i=>∃a b,v=.func (.func 131) [] [.ptr a 0,.ptr b 0]∧h.get a=some (.cells [.ptr (ρ i) 0] true false)∧h.get b=some (.cells [.str p] true false)∧K a=5∧K b=5
 | .ren x y=>∃a b,v=.func (.func 133) [] [.ptr a 0,.ptr b 0]∧h.get a=some (.cells [.str x] true false)∧h.get b=some (.cells [.str y] true false)∧K a=5∧K b=5
 | .rm p=>∃a,v=.func (.func 103) [] [.ptr a 0]∧h.get a=some (.cells [.str p] true false)∧K a=5
theorem Clo.mono {K K':Nat→Nat} {h h':AH} {ρ ρ':Nat→Nat} {n:Nat} {v:AV} (hk:∀j,K j=5→K' j=5∧h'.get j=h.get j) (hr:∀i,i<n→ρ' i=ρ i):∀ {t:Nte},NteOK n t→Clo K h ρ v t→Clo K' h' ρ' v t
 | .mk p i,hn,⟨a,b,h1,h2,h3,h4,h5⟩=>⟨a,b,h1,by rw [hr i hn.1];exact (hk a h4).2.trans h2,(hk b h5).2.trans h3,(hk a h4).1,(hk b h5).1⟩
 | .ren x y,hn,⟨a,b,h1,h2,h3,h4,h5⟩=>⟨a,b,h1,(hk a h4).2.trans h2,(hk b h5).2.trans h3,(hk a h4).1,(hk b h5).1⟩
 | .rm p,hn,⟨a,h1,h2,h3⟩=>⟨a,h1,(hk a h3).2.trans h2,(hk a h3).1⟩
def Chs (K:Nat→Nat) (h:AH) (ρ:Nat→Nat) (v:AV) (l:List Nte):Prop :=
 (v=.nilsl∧l=[])∨∃id cs,v=.sl id 0 l.length 1 none∧h.get id=some (.cells cs true false)∧id<h.nx∧K id=6∧cs.length=l.length∧cs.all oneA=true∧∀(i:Nat) t,l[i]? = some t→∃c,cs[i]? = some c∧Clo K h ρ c t
theorem Chs.mono {K K':Nat→Nat} {h h':AH} {ρ ρ':Nat→Nat} {n:Nat} {v:AV} {l:List Nte} (hk:∀j,K j=5→K' j=5∧h'.get j=h.get j) (hk6:∀j,K j=6→K' j=6∧h'.get j=h.get j) (hn:h.nx≤h'.nx)
  (hr:∀i,i<n→ρ' i=ρ i) (hl:∀t∈l,NteOK n t) (hc:Chs K h ρ v l):Chs K' h' ρ' v l:=by
 rcases hc with h1 | ⟨id,cs,h1,h2,h3,h4,h5,h6,h7⟩
 ·exact .inl h1
 ·refine .inr ⟨id,cs,h1,(hk6 id h4).2.trans h2,Nat.lt_of_lt_of_le h3 hn,(hk6 id h4).1,h5,h6,fun i t ht=>?_⟩
  obtain ⟨c,e1,e2⟩:=h7 i t ht
  exact ⟨c,e1,Clo.mono hk hr (hl t (List.mem_iff_getElem?.2 ⟨i,ht⟩)) e2⟩
theorem Chs.shape {K:Nat→Nat} {h:AH} {ρ:Nat→Nat} {v:AV} {l:List Nte} (hc:Chs K h ρ v l):(∀g,evLen Tryz.prog g #[61] v=some (.int .i64 (l.length:Nat)))∧sameAV 20 v v=true∧oneA v=true:=by
 rcases hc with ⟨rfl,rfl⟩ | ⟨id,cs,rfl,_⟩
 ·exact ⟨fun g=>by simp [evLen,Tryz.underlying61],rfl,rfl⟩
 ·exact ⟨fun g=>by simp [evLen,Tryz.underlying61],by simp [sameAV],rfl⟩
def FilA (K:Nat→Nat) (h:AH) (id:Nat) (f:Fil):Prop :=
 ∃bv sv,h.get id=some (.cells [bv,sv,.int .u64 (f.st:Nat)] true false)∧By K h bv f.b∧By K h sv f.s∧K id=4
theorem FilA.mono {K K':Nat→Nat} {h h':AH} {id:Nat} {f:Fil} (hk:∀j,K j=5→K' j=5∧h'.get j=h.get j) (hk4:K' id=4∧h'.get id=h.get id) (hn:h.nx≤h'.nx) (hf:FilA K h id f):FilA K' h' id f:=by
 obtain ⟨bv,sv,h1,h2,h3,h4⟩:=hf
 exact ⟨bv,sv,hk4.2.trans h1,h2.mono hk hn,h3.mono hk hn,hk4.1⟩
structure Tr (K:Nat→Nat) (p nm sm:Nat) (chv:AV) (ρ:Nat→Nat) (h:AH) (T:TT):Prop where
 pp:h.get p=some (.cells [.bool true,.int .i64 T.room,.map nm,.map sm,chv,.int .u64 (T.clock:Nat),.bool T.off,.int .i64 T.fuse] true false)
 now:∃bs ck,h.get nm=some (.map (enS (mapS (fpt ρ) T.now)) bs ck)
 safe:∃bs ck,h.get sm=some (.map (enS (mapS (fpt ρ) T.safe)) bs ck)
 ch:Chs K h ρ chv T.notes
 fl:∀i,i<T.files.length→FilA K h (ρ i) (T.fil i)
 inj:∀i j,i<T.files.length→j<T.files.length→ρ i=ρ j→i=j
 kp:K p=1
 kn:K nm=2
 ks:K sm=3
 top:∀j,h.nx≤j→K j=0
 wf:Wf T
theorem Tr.lt {K p nm sm chv ρ h T} (hT:Tr K p nm sm chv ρ h T) {j:Nat} (hj:K j≠0):j<h.nx:=by
 rcases Nat.lt_or_ge j h.nx with h1 | h1
 ·exact h1
 ·exact absurd (hT.top j h1) hj
structure Gr (K:Nat→Nat) (h:AH) (K':Nat→Nat) (h':AH):Prop where
 nx:h.nx≤h'.nx
 get:∀j,j<h.nx→K j=0→h'.get j=h.get j∧K' j=0
theorem Gr.refl (K:Nat→Nat) (h:AH):Gr K h K h:=⟨Nat.le_refl _,fun j _ hk=>⟨rfl,hk⟩⟩
theorem Gr.trans {K K' K'':Nat→Nat} {h h' h'':AH} (h1:Gr K h K' h') (h2:Gr K' h' K'' h''):Gr K h K'' h'' :=
 ⟨Nat.le_trans h1.nx h2.nx,fun j hj hk=>by
  obtain ⟨e1,e2⟩:=h1.get j hj hk
  obtain ⟨e3,e4⟩:=h2.get j (Nat.lt_of_lt_of_le hj h1.nx) e2
  exact ⟨e3.trans e1,e4⟩⟩
theorem frGr {h h':AH} (hf:Fr h h') (K:Nat→Nat):Gr K h K h':=⟨hf.nx,fun j hj hk=>⟨hf.get j hj,hk⟩⟩
theorem Tr.mono {K p nm sm chv ρ h T} (hT:Tr K p nm sm chv ρ h T) {h':AH} (hk:∀j,K j≠0→h'.get j=h.get j) (hn:h.nx≤h'.nx):Tr K p nm sm chv ρ h' T:=by
 have k5:∀j,K j=5→K j=5∧h'.get j=h.get j:=fun j hj=>⟨hj,hk j (by omega)⟩
 have k6:∀j,K j=6→K j=6∧h'.get j=h.get j:=fun j hj=>⟨hj,hk j (by omega)⟩
 obtain ⟨h1,⟨b2,c2,h2⟩,⟨b3,c3,h3⟩,h4,h5,h6,h7,h8,h9,h10,h11⟩:=hT
 refine ⟨(hk p (by omega)).trans h1,⟨b2,c2,(hk nm (by omega)).trans h2⟩,⟨b3,c3,(hk sm (by omega)).trans h3⟩,h4.mono k5 k6 hn (fun _ _=>rfl) h11.notes,fun i hi=>?_,h6,h7,h8,h9,fun j hj=>h10 j (Nat.le_trans hn hj),h11⟩
 obtain ⟨bv,sv,e1,e2,e3,e4⟩:=h5 i hi
 exact ⟨bv,sv,(hk _ (by omega)).trans e1,e2.mono k5 hn,e3.mono k5 hn,e4⟩
theorem Tr.fr {K p nm sm chv ρ h T} (hT:Tr K p nm sm chv ρ h T) {h':AH} (hf:Fr h h'):Tr K p nm sm chv ρ h' T:=hT.mono (fun j hj=>hf.get j (hT.lt hj)) hf.nx
theorem Tr.setp {K p nm sm chv ρ h T} (hT:Tr K p nm sm chv ρ h T) {h':AH} (hk:∀j,K j≠0→j≠p→h'.get j=h.get j) (hn:h.nx≤h'.nx) {T':TT} (w:Wf T') (e1:T'.now=T.now) (e2:T'.safe=T.safe) (e3:T'.notes=T.notes) (e4:T'.files=T.files)
  (hp:h'.get p=some (.cells [.bool true,.int .i64 T'.room,.map nm,.map sm,chv,.int .u64 (T'.clock:Nat),.bool T'.off,.int .i64 T'.fuse] true false)):Tr K p nm sm chv ρ h' T':=by
 obtain ⟨h1,⟨b2,c2,h2⟩,⟨b3,c3,h3⟩,h4,h5,h6,h7,h8,h9,h10,h11⟩:=hT
 have ne:∀ {j n},K j=n→n≠0→n≠1→h'.get j=h.get j:=fun {j n} hj h0 h1=>hk j (by omega) (fun hh=>by rw [hh] at hj;omega)
 have k5:∀j,K j=5→K j=5∧h'.get j=h.get j:=fun j hj=>⟨hj,ne hj (by omega) (by omega)⟩
 have k6:∀j,K j=6→K j=6∧h'.get j=h.get j:=fun j hj=>⟨hj,ne hj (by omega) (by omega)⟩
 refine ⟨hp,⟨b2,c2,by rw [e1];exact (ne h8 (by omega) (by omega)).trans h2⟩,⟨b3,c3,by rw [e2];exact (ne h9 (by omega) (by omega)).trans h3⟩,by rw [e3];exact h4.mono k5 k6 hn (fun _ _=>rfl) h11.notes,fun i hi=>?_,by rw [e4];exact h6,h7,h8,h9,fun j hj=>h10 j (Nat.le_trans hn hj),w⟩
 rw [e4] at hi
 obtain ⟨bv,sv,q1,q2,q3,q4⟩:=h5 i hi
 have ef:T'.fil i=T.fil i:=by unfold TT.fil;rw [e4]
 rw [ef]
 exact ⟨bv,sv,(ne q4 (by omega) (by omega)).trans q1,q2.mono k5 hn,q3.mono k5 hn,q4⟩
structure Sm (T:TT):Prop where
 clock:T.clock<1152921504606846976
 now:T.now.length≤16384
 safe:T.safe.length≤16384
 notes:T.notes.length≤1048576
theorem sv_int (k:IntKind) (n:Int):sameAV 20 (.int k n) (.int k n)=true:=by simp [sameAV]
theorem sv_bool (b:Bool):sameAV 20 (.bool b) (.bool b)=true:=by simp [sameAV]
theorem z62:(tzero Tryz.prog 93).map toAV=some .nilptr:=by kernel_rfl
theorem nilP (h:AH):binA Tryz.prog h .eql 93 .nilptr .nilptr=some (.bool true):=by kernel_rfl
theorem nilQ (h:AH) (a:Nat):binA Tryz.prog h .eql 93 (.ptr a 0) .nilptr=some (.bool false):=by kernel_rfl
theorem nilP' (h:AH):binA Tryz.prog h .neq 93 .nilptr .nilptr=some (.bool false):=by kernel_rfl
theorem nilQ' (h:AH) (a:Nat):binA Tryz.prog h .neq 93 (.ptr a 0) .nilptr=some (.bool true):=by kernel_rfl
theorem neT (h:AH) (a:Nat):binA Tryz.prog h .neq 25 (.ptr a 0) .nilptr=some (.bool true):=by kernel_rfl
theorem lookN {h:AH} {m:Nat} {ρ:Nat→Nat} {E:Ixs} (hm:∃bs ck,h.get m=some (.map (enS (mapS (fpt ρ) E)) bs ck)) (k:Pth):evLookup Tryz.prog h 60 (.map m) (.str k) false=some (match valS E k with | some i=>.ptr (ρ i) 0 | none=>.nilptr):=by
 obtain ⟨bs,ck,hm⟩:=hm
 have:=(lookS Tryz.underlying60 Tryz.underlying9 z62 hm k).1
 rw [mapS_val] at this
 rw [this]
 cases valS E k <;> rfl
theorem u64_id {n:Int} (h1:0≤n) (h2:n<18446744073709551616):IntKind.u64.wrap n=n:=by
 have e:IntKind.u64.wrap n=n.emod 18446744073709551616:=rfl
 rw [e]
 exact Int.emod_eq_of_lt h1 h2
section
variable {S : Sums}
theorem madeC (hS:St S) {h:AH} {p:Nat} {cs:List AV} (hp:h.get p=some (.cells (.bool true::cs) true false)) (hc:cs.length=7):RnC Tryz.prog S 39 [.ptr p 0] h fun r h'=>r=.bool true∧h'=h:=by
 obtain ⟨a,b,c,d,e,f,g,rfl⟩:∃a b c d e f g,cs=[a,b,c,d,e,f,g]:=by
  match cs,hc with
  | [a,b,c,d,e,f,g],_=>exact ⟨a,b,c,d,e,f,g,rfl⟩
 refine RnC.enter' Tryz.f39 _ 11 [.tmp 2] (hS.nt _ _ _ (by simp)) bd39 Tryz.func39 rfl rfl rfl ?_
 simp -dsimp (disch:=(repeat first | rw [nxn] | rw [nxp]);try omega) only [go_sem,evLen,neT,hp]
 exact ⟨trivial,trivial⟩
theorem Tr.made {K p nm sm chv ρ h T} (hT:Tr K p nm sm chv ρ h T) (hS:St S):RnC Tryz.prog S 39 [.ptr p 0] h fun r h'=>r=.bool true∧h'=h:=madeC hS hT.pp rfl
theorem tickC (hS:St S) {K p nm sm chv ρ h T} (hT:Tr K p nm sm chv ρ h T) (hm:T.clock<1152921504606846976):RnC Tryz.prog S 48 [.ptr p 0] h fun r h'=>r=.int .u64 ((T.clock+1:Nat):Int)∧Tr K p nm sm chv ρ h' (tickT T)∧h'.nx=h.nx∧∀j,j≠p→h'.get j=h.get j:=by
 refine RnC.enter' Tryz.f48 _ 14 [.tmp 2] (hS.nt _ _ _ (by simp)) bd48 Tryz.func48 rfl rfl rfl ?_
 have hp:=hT.pp
 have hw:IntKind.u64.wrap (((T.clock:Nat):Int)+1)=((T.clock+1:Nat):Int):=by rw [u64_id (by omega) (by omega)];omega
 simp -dsimp (disch:=(repeat first | rw [nxn] | rw [nxp]);try omega) only [go_sem,evLen,hp,hw]
 refine ⟨trivial,hT.setp (fun j _ hj=>AH.get_put_ne hj) (Nat.le_refl _) hT.wf.tick rfl rfl rfl rfl (AH.get_put_eq rfl),trivial,fun j hj=>AH.get_put_ne hj⟩
end
def Av (h:AH) (v:AV) (l:List Pth):Prop:=(v=.nilsl∧l=[])∨∃id c o t,v=.sl id 0 l.length 1 c∧h.get id=some (.cells (l.map .str) o t)∧id<h.nx
theorem Av.ln {h:AH} {v:AV} {l:List Pth} (hb:Av h v l):∀g,evLen Tryz.prog g #[66] v=some (.int .i64 (l.length:Nat)):=by
 rcases hb with ⟨rfl,rfl⟩ | ⟨id,c,o,t,rfl,_⟩
 ·exact fun g=>by simp [evLen,Tryz.underlying66]
 ·exact fun g=>by simp [evLen,Tryz.underlying66]
section
variable {S : Sums}
theorem opC (hS:St S) {K p nm sm chv ρ h T} (hT:Tr K p nm sm chv ρ h T) {v:AV} {l:List Pth} (hl:Av h v l) (hn:l.length≤1024) :
  RnC Tryz.prog S 100 [.ptr p 0,v] h fun r h'=>r=.int .i64 ((opT T (l.all okP)).1:Nat)∧Tr K p nm sm chv ρ h' (opT T (l.all okP)).2∧h.nx≤h'.nx∧∀j,j<h.nx→j≠p→h'.get j=h.get j:=by
 refine RnC.enter' Tryz.f100 _ 61 [.tmp 4] (hS.nt _ _ _ (by simp)) bd100 Tryz.func100 rfl rfl rfl ?_
 have hpl:p<h.nx:=hT.lt (by rw [hT.kp];decide)
 have ln:=hl.ln
 simp -dsimp (disch:=(repeat first | rw [nxn] | rw [nxp]);try omega) only [go_sem]
 refine callK_of (hT.made hS) ?_
 rintro r h2 ⟨rfl,rfl⟩
 simp -dsimp (disch:=(repeat first | rw [nxn] | rw [nxp]);try omega) only [go_sem,ln]
 refine loopK_of (RnL.rounds (Q:=fun ex u=>u.d=[]∧Fr h2 u.h∧u.t.get 0=some (.ptr p 0)∧(ex=.exit 0∧l.all okP=true∨ex=.ret∧l.all okP=false∧u.t.get 4=some (.int .i64 2)))
  (fun m u=>u.d=[]∧Fr h2 u.h∧u.t.get 0=some (.ptr p 0)∧u.t.get 12=some v∧u.t.get 13=some (.int .i64 (l.length:Nat))∧∃i:Nat,u.t.get 14=some (.int .i64 (i:Nat))∧i≤l.length∧(l.take i).all okP=true∧m=l.length-i) ?_ l.length ?_) ?_
 ·rintro m ⟨t,h1,d⟩ ⟨e2,e1,g0,g12,g13,i,g14,hi,hall,rfl⟩
  dsimp only at e1 e2 g0 g12 g13 g14
  subst e2
  by_cases c4:(i:Int)<(l.length:Nat)
  ·have hil:i<l.length:=by omega
   obtain ⟨a,ha⟩:∃a,l[i]? = some a:=⟨_,List.getElem?_eq_getElem hil⟩
   rcases hl with ⟨_,rfl⟩ | ⟨id,c,o,tx,rfl,hg,hid⟩
   ·simp at hil
   have hcs:(l.map AV.str)[i]? = some (.str a):=by simp [ha]
   have hg1:h1.get id=some (.cells (l.map .str) o tx):=(e1.get id hid).trans hg
   have htk:l.take (i+1)=l.take i++[a]:=by rw [List.take_add_one,ha];rfl
   have hno:okP a=false→l.all okP=false:=fun hc=>by
    rw [List.all_eq_false]
    exact ⟨a,List.mem_iff_getElem?.2 ⟨i,ha⟩,by simp [hc]⟩
   simp -dsimp (disch:=(repeat first | rw [nxn] | rw [nxp]);try omega) only [go_sem,c4,hg1,hcs,hil,Nat.mul_one,g0,g12,g13,g14]
   refine callK_of (tempedC hS.toSp) ?_
   rintro r h3 ⟨⟨x,rfl⟩,hf3⟩
   simp -dsimp (disch:=(repeat first | rw [nxn] | rw [nxp]);try omega) only [go_sem,c4,hg1,hcs,hil,Nat.mul_one,g0,g12,g13,g14]
   refine callK_of (checkC hS.toSp) ?_
   rintro r h4 ⟨rfl,hf4⟩
   have f4:=(e1.trans hf3).trans hf4
   by_cases c5:((checkS a:Nat):Int)=0
   ·have c5':checkS a=0:=by omega
    simp -dsimp (disch:=(repeat first | rw [nxn] | rw [nxp]);try omega) only [go_sem,c4,c5,hg1,hcs,hil,Nat.mul_one,g0,g12,g13,g14]
    exact ⟨l.length-(i+1),by omega,trivial,f4,trivial,trivial,trivial,i+1,rfl,by omega,by rw [htk,List.all_append,hall];simp [okP,c5'],rfl⟩
   ·have c5':¬checkS a=0:=by omega
    cases ht:tempedS a
    ·simp -dsimp (disch:=(repeat first | rw [nxn] | rw [nxp]);try omega) only [go_sem,c4,c5,ht,hg1,hcs,hil,Nat.mul_one,g0,g12,g13,g14]
     exact ⟨trivial,f4,trivial,.inr ⟨trivial,hno (by simp [okP,c5',ht]),trivial⟩⟩
    ·simp -dsimp (disch:=(repeat first | rw [nxn] | rw [nxp]);try omega) only [go_sem,c4,c5,ht,hg1,hcs,hil,Nat.mul_one,g0,g12,g13,g14]
     exact ⟨l.length-(i+1),by omega,trivial,f4,trivial,trivial,trivial,i+1,rfl,by omega,by rw [htk,List.all_append,hall];simp [okP,ht],rfl⟩
  ·have:i=l.length:=by omega
   subst this
   rw [List.take_length] at hall
   simp -dsimp (disch:=(repeat first | rw [nxn] | rw [nxp]);try omega) only [go_sem,c4,g0,g12,g13,g14]
   exact ⟨trivial,e1,trivial,.inl ⟨trivial,hall⟩⟩
 ·simp -dsimp (disch:=(repeat first | rw [nxn] | rw [nxp]);try omega) only [go_sem,ln]
  exact ⟨trivial,Fr.refl _,trivial,trivial,trivial,0,rfl,Nat.zero_le _,by simp,rfl⟩
 ·rintro ex ⟨t,h1,d⟩ ⟨e2,e1,g0,⟨rfl,hh⟩ | ⟨rfl,hh,g4⟩⟩
  ·dsimp only at e1 e2 g0
   subst e2
   have hT1:=hT.fr e1
   have hp1:=hT1.pp
   rw [hh]
   have w:=hT.wf
   have e2:h2.nx≤h1.nx:=e1.nx
   unfold opT
   have hfu:=hT.wf.fuse
   cases ho:T.off
   ·rw [ho] at hp1
    by_cases c1:T.fuse=0
    ·simp -dsimp (disch:=(repeat first | rw [nxn] | rw [nxp]);try omega) only [go_sem,hp1,g0,c1]
     exact ⟨trivial,hT1.setp (fun j _ hj=>(AH.get_put_ne hj).trans (AH.get_put_ne hj)) (Nat.le_refl _) ⟨w.1,w.2,w.3,⟨Int.le_refl _,by show (-1:Int)≤_;decide⟩,w.5,w.6⟩ rfl rfl rfl rfl (AH.get_put_eq rfl),e2,fun j hj hjp=>((AH.get_put_ne hjp).trans (AH.get_put_ne hjp)).trans (e1.get j hj)⟩
    ·by_cases c2:0<T.fuse
     ·simp -dsimp (disch:=(repeat first | rw [nxn] | rw [nxp]);try omega) only [go_sem,hp1,g0,c1,c2]
      exact ⟨trivial,hT1.setp (fun j _ hj=>AH.get_put_ne hj) (Nat.le_refl _) ⟨w.1,w.2,w.3,⟨by show (-1:Int)≤T.fuse-1;omega,by show T.fuse-1≤_;omega⟩,w.5,w.6⟩ rfl rfl rfl rfl (AH.get_put_eq rfl),e2,fun j hj hjp=>(AH.get_put_ne hjp).trans (e1.get j hj)⟩
     ·simp -dsimp (disch:=(repeat first | rw [nxn] | rw [nxp]);try omega) only [go_sem,hp1,g0,c1,c2]
      exact ⟨trivial,hT1,e2,fun j hj hjp=>e1.get j hj⟩
   ·rw [ho] at hp1
    simp -dsimp (disch:=(repeat first | rw [nxn] | rw [nxp]);try omega) only [go_sem,hp1,g0]
    exact ⟨trivial,hT1,e2,fun j hj hjp=>e1.get j hj⟩
  ·dsimp only at e1 e2 g4
   subst e2
   simp -dsimp (disch:=(repeat first | rw [nxn] | rw [nxp]);try omega) only [go_sem,g4]
   rw [hh]
   exact ⟨rfl,hT.fr e1,e1.nx,fun j hj hjp=>e1.get j hj⟩
end
end Go.Proofs.YtaooopaemphfjaaGreatDoor.tre
end