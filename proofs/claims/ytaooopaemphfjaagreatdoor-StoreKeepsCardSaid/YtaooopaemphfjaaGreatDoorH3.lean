/- Texts joined: TCi, TCj, TCk, TLa, TLb, WLa, WLb. -/
import Derived.Test.YtaooopaemphfjaaGreatDoorH2
import Derived.Test.YtaooopaemphfjaaGreatDoorAb5
import Derived.ChangeShapes
set_option maxRecDepth 100000
set_option linter.unusedVariables false
set_option linter.unusedSimpArgs false
set_option maxHeartbeats 16000000
section
namespace Go.Proofs.YtaooopaemphfjaaGreatDoor.tre
open Go Go.Abs Go.Proofs
theorem tmodN {a:Int} {n:Nat} (ha:0≤a) (hn:0<n):a.tmod (n:Int)=((a.toNat%n:Nat):Int):=by
 obtain ⟨m,rfl⟩:=Int.eq_ofNat_of_zero_le ha
 rw [Int.tmod_eq_emod_of_nonneg (by omega)]
 simp
theorem nilM (h:AH) (a:Nat):binA Tryz.prog h .eql 60 (.map a) .nilmap=some (.bool false):=by kernel_rfl
section
variable {S : Sums}
theorem leftFC (hS:St S) {K:Nat→Nat} {h:AH} {id:Nat} {f:Fil} (hf:FilA K h id f) (hid:id<h.nx) (fo:FilOK f) (part:Int):RnC Tryz.prog S 52 [.ptr id 0,.int .i64 part] h fun r h'=>Bs h' r (leftF f part)∧Fr h h':=by
 refine RnC.enter' Tryz.f52 _ 47 [.tmp 4] (hS.nt _ _ _ (by simp)) bd52 Tryz.func52 rfl rfl rfl ?_
 obtain ⟨bv,sv,q1,q2,q3,q4⟩:=hf
 obtain ⟨lb,sb,ob⟩:=bsLn q2.bs
 obtain ⟨ls,ss,os⟩:=bsLn q3.bs
 have f1:Fr h { tr:=h.tr,nx:=h.nx+10 }:=(Fr.refl h).more _ (by omega)
 simp -dsimp (disch:=(repeat first | rw [nxn] | rw [nxp]);try omega) only [go_sem]
 refine syDraw.keep (fun j=>j<h.nx) (by kernel_rfl) (by kernel_rfl) ?_
 simp -dsimp (disch:=(repeat first | rw [nxn] | rw [nxp]);try omega) only [go_sem,q1,hid,lb,ls,ob,os,sb,ss,true_and,implies_true,sv_int,sv_bool]
 refine callK_of (bprefC hS (q2.bs.fr f1) (q3.bs.fr f1) fo.1 fo.2.1) ?_
 rintro r h2 ⟨rfl,rfl⟩
 refine ⟨fun id _=>rfl,?_⟩
 have lbl:=fo.2.2.1
 have lsl:=fo.2.2.2
 unfold leftF
 by_cases c:f.b.take f.s.length=f.s
 ·have cd:decide (f.b.take f.s.length=f.s)=true:=by simpa using c
  have hle:f.s.length≤f.b.length:=by
   have:=congrArg List.length c
   rw [List.length_take] at this
   omega
  rw [if_pos c]
  have e0:(max 0 part)=(((max 0 part).toNat:Nat):Int):=by omega
  have em:(max 0 part).tmod ((((f.b.length:Nat):Int)-((f.s.length:Nat):Int))+1)=(((max 0 part).toNat%(f.b.length-f.s.length+1):Nat):Int):=by
   rw [show (((f.b.length:Nat):Int)-((f.s.length:Nat):Int))+1=((f.b.length-f.s.length+1:Nat):Int) by omega]
   exact tmodN (by omega) (by omega)
  have hlt:(max 0 part).toNat%(f.b.length-f.s.length+1)<f.b.length-f.s.length+1:=Nat.mod_lt _ (by omega)
  generalize hx:(max 0 part).toNat%(f.b.length-f.s.length+1)=x at em hlt
  have cz:¬(((f.b.length:Nat):Int)-((f.s.length:Nat):Int))+1=0:=by omega
  obtain ⟨w,t1,hw,_,ow⟩:=q2.bs.slice_to (hi:=f.s.length+x) Tryz.underlying87 tz5 (by omega)
  have et:((f.s.length:Nat):Int)+((x:Nat):Int)=((f.s.length+x:Nat):Int):=by omega
  simp -dsimp (disch:=(repeat first | rw [nxn] | rw [nxp]);try omega) only [go_sem,cd,q1,hid,lb,ls,ob,os,sb,ss,true_and,implies_true,sv_int,sv_bool]
  refine syDraw.go0 (by kernel_rfl) ?_
  simp -dsimp (disch:=(repeat first | rw [nxn] | rw [nxp]);try omega) only [go_sem,cd,q1,hid,lb,ls,ob,os,sb,ss,true_and,implies_true,sv_int,sv_bool]
  refine syDraw.go0 (by kernel_rfl) ?_
  simp -dsimp (disch:=(repeat first | rw [nxn] | rw [nxp]);try omega) only [go_sem,cd,q1,hid,lb,ls,ob,os,sb,ss,em,cz,et,t1,ow,true_and,implies_true,sv_int,sv_bool]
  have f9:Fr h { tr:=h.tr,nx:=h.nx+10+12+17 }:=(Fr.refl h).more _ (by omega)
  exact ⟨hw.fr f9,f9⟩
 ·have cd:decide (f.b.take f.s.length=f.s)=false:=by simpa using c
  rw [if_neg c]
  simp -dsimp (disch:=(repeat first | rw [nxn] | rw [nxp]);try omega) only [go_sem,cd,q1,hid,lb,ls,ob,os,sb,ss,true_and,implies_true,sv_int,sv_bool]
  exact ⟨q3.bs.fr f1,f1⟩
theorem cloneMC (hS:St S) {h:AH} {m:Nat} {es:List (AV×AV)} {bs:List Nat} {ck:Nat} (hm:h.get m=some (.map es bs ck)):RnC Tryz.prog S 46 [.map m] h fun r h'=>r=.map h.nx∧h'=h.new (.map es bs ck):=by
 refine RnC.enter' Tryz.f46 _ 9 [.tmp 2] (hS.nt _ _ _ (by simp)) bd46 Tryz.func46 rfl rfl rfl ?_
 simp -dsimp (disch:=(repeat first | rw [nxn] | rw [nxp]);try omega) only [go_sem,evLen,nilM]
 refine callK_of (RnC.sum (Q:=fun r h'=>r=.iface 60 (.map h.nx)∧h'=h.new (.map es bs ck)) (v:=.iface 60 (.map h.nx)) (h':=h.new (.map es bs ck)) (by rw [hS.clone];simp only [sumClone,hm]) ⟨rfl,rfl⟩) ?_
 rintro r h2 ⟨rfl,rfl⟩
 simp -dsimp (disch:=(repeat first | rw [nxn] | rw [nxp]);try omega) only [go_sem,evLen]
 exact ⟨trivial,trivial⟩
theorem keysC (hS:St S) {h:AH} {m:Nat}:RnC Tryz.prog S 50 [.map m] h fun r h'=>r=.func (.func 86) [] [.ptr h.nx 0]∧h'=h.new (.cells [.map m] true false):=by
 refine RnC.enter' Tryz.f50 _ 4 [.tmp 2] (hS.nt _ _ _ (by simp)) bd50 Tryz.func50 rfl rfl rfl ?_
 simp -dsimp (disch:=(repeat first | rw [nxn] | rw [nxp]);try omega) only [go_sem,evLen]
 exact ⟨trivial,trivial⟩
theorem sortedC (hS:St S) {h:AH} {m b n:Nat} {ρ:Nat→Nat} {E:Ixs} (hb:h.get b=some (.cells [.map m] true false)) (hm:∃bs ck,h.get m=some (.map (enS (mapS (fpt ρ) E)) bs ck)) (hE:IxOK n E) (hl:E.length≤16384) :
  RnC Tryz.prog S 49 [.func (.func 86) [] [.ptr b 0]] h fun r h'=>Ss h.nx h' r (sortS (E.map (·.1)))∧Fr h h':=by
 obtain ⟨bs,ck,hm⟩:=hm
 have hk:=keysN (ρ:=ρ) hE
 have hlen:(enS (mapS (fpt ρ) E)).length=E.length:=by simp [enS,mapS]
 have key:∀l,sortS (E.map (·.1))=l→RnC Tryz.prog S 49 [.func (.func 86) [] [.ptr b 0]] h fun r h'=>Ss h.nx h' r l∧Fr h h':=fun l hs=>by
  cases l with
  | nil =>
   refine RnC.sum (v:=.nilsl) (h':=h) ?_ ⟨.inl ⟨rfl,rfl⟩,Fr.refl _⟩
   rw [hS.sorted]
   simp only [sumSorted,hb,hm,hk,hs,hlen,if_pos (show E.length≤1099511627776 by omega),show Nat.beq 86 86=true from rfl,if_true]
  | cons a r =>
   refine RnC.sum (v:=.sl h.nx 0 (a::r).length 1 none) (h':=h.new (.cells ((a::r).map .str) true false)) ?_ ⟨.inr ⟨h.nx,rfl,AH.get_new_eq rfl,Nat.lt_succ_self _,Nat.le_refl _⟩,Fr.new _ _⟩
   rw [hS.sorted]
   simp only [sumSorted,hb,hm,hk,hs,hlen,if_pos (show E.length≤1099511627776 by omega),show Nat.beq 86 86=true from rfl,if_true]
 exact key _ rfl
end
theorem insS_mem {a x:Pth}:∀ {l:List Pth},x∈insS a l→x=a∨x∈l
 | [],h=>.inl (List.mem_singleton.1 h)
 | b::l,h=>by
  unfold insS at h
  cases hc:lessA b a
  ·rw [hc] at h
   simp only [cond_false,List.mem_cons] at h ⊢
   exact h
  ·rw [hc] at h
   simp only [cond_true,List.mem_cons] at h ⊢
   rcases h with h | h
   ·exact .inr (.inl h)
   ·exact (insS_mem h).imp id .inr
theorem sortS_mem {x:Pth}:∀ {l:List Pth},x∈sortS l→x∈l
 | a::l,h=>by
  rcases insS_mem (l:=sortS l) h with h | h
  ·rw [h];exact List.mem_cons_self ..
  ·exact List.mem_cons_of_mem _ (sortS_mem h)
theorem insS_len (a:Pth):∀l:List Pth,(insS a l).length=l.length+1
 | []=>rfl
 | b::l=>by
  unfold insS
  cases lessA b a
  ·simp
  ·simp [insS_len a l]
theorem sortS_len:∀l:List Pth,(sortS l).length=l.length
 | []=>rfl
 | a::l=>by
  show (insS a (sortS l)).length=_
  rw [insS_len,sortS_len l]
  rfl
theorem crashL_snoc {was:Ixs} {s:Pth}:∀(l:List Pth) (T:TT) (ps:List Int),crashL was T (l++[s]) ps=crash1 was (crashL was T l ps) s (hd0 (ps.drop l.length))
 | [],T,ps=>rfl
 | a::l,T,ps=>by
  show crashL was (crash1 was T a (hd0 ps)) (l++[s]) ps.tail=_
  rw [crashL_snoc l]
  have:ps.tail.drop l.length=ps.drop (a::l).length:=by cases ps <;> simp
  rw [this]
  rfl
theorem crashL_take {was:Ixs} {T:TT} {ps:List Int} {l:List Pth} {i:Nat} {s:Pth} (hi:l[i]? = some s):crashL was T (l.take (i+1)) ps=crash1 was (crashL was T (l.take i) ps) s (hd0 (ps.drop i)):=by
 have hil:i<l.length:=(List.getElem?_eq_some_iff.1 hi).1
 have:l.take (i+1)=l.take i++[s]:=by rw [List.take_add_one,hi];rfl
 rw [this,crashL_snoc,List.length_take,Nat.min_eq_left (by omega)]
theorem crash1_eq (was:Ixs) (T:TT) (s:Pth) (part:Int):(crash1 was T s part).safe=T.safe∧T.files.length≤(crash1 was T s part).files.length∧(crash1 was T s part).clock≤T.clock+1∧(crash1 was T s part).notes=T.notes∧∀i,i<T.files.length→(crash1 was T s part).fil i=T.fil i:=by
 unfold crash1
 split
 ·exact ⟨rfl,Nat.le_refl _,by omega,rfl,fun _ _=>rfl⟩
 ·dsimp only
  split
  ·refine ⟨rfl,by simp,by simp,rfl,fun i hi=>?_⟩
   rw [fil_add rfl,if_neg (by omega)]
  ·refine ⟨rfl,by simp,by simp,rfl,fun i hi=>?_⟩
   rw [fil_add (T:=T) rfl,if_neg (by omega)]
theorem crashL_eq (was:Ixs):∀(l:List Pth) (T:TT) (ps:List Int),(crashL was T l ps).safe=T.safe∧T.files.length≤(crashL was T l ps).files.length∧(crashL was T l ps).clock≤T.clock+l.length∧(crashL was T l ps).notes=T.notes∧∀i,i<T.files.length→(crashL was T l ps).fil i=T.fil i
 | [],T,_=>⟨rfl,Nat.le_refl _,Nat.le_refl _,rfl,fun _ _=>rfl⟩
 | s::r,T,ps=>by
  obtain ⟨h1,h2,h3,h4,h5⟩:=crash1_eq was T s (hd0 ps)
  obtain ⟨k1,k2,k3,k4,k5⟩:=crashL_eq was r (crash1 was T s (hd0 ps)) ps.tail
  refine ⟨k1.trans h1,Nat.le_trans h2 k2,?_,k4.trans h4,fun i hi=>(k5 i (by omega)).trans (h5 i hi)⟩
  show (crashL was (crash1 was T s (hd0 ps)) r ps.tail).clock≤T.clock+(r.length+1)
  omega
def Iv (K:Nat→Nat) (h:AH) (v:AV) (l:List Int):Prop :=
 (v=.nilsl∧l=[])∨∃id off c cs o t,v=.sl id off l.length 1 c∧h.get id=some (.cells cs o t)∧id<h.nx∧K id=0∧(∀k,c=some k→l.length≤k)∧off+l.length≤cs.length∧(cs.drop off).take l.length=l.map (.int .i64)
theorem Iv.gr {K K':Nat→Nat} {h h':AH} {v:AV} {l:List Int} (hb:Iv K h v l) (g:Gr K h K' h'):Iv K' h' v l:=by
 rcases hb with h1 | ⟨id,off,c,cs,o,t,h1,h2,h3,h4,h5⟩
 ·exact .inl h1
 ·exact .inr ⟨id,off,c,cs,o,t,h1,(g.get id h3 h4).1.trans h2,Nat.lt_of_lt_of_le h3 g.nx,(g.get id h3 h4).2,h5⟩
theorem Iv.ln {K:Nat→Nat} {h:AH} {v:AV} {l:List Int} (hb:Iv K h v l):(∀g,evLen Tryz.prog g #[44] v=some (.int .i64 (l.length:Nat)))∧sameAV 20 v v=true∧oneA v=true:=by
 rcases hb with ⟨rfl,rfl⟩ | ⟨id,off,c,cs,o,t,rfl,_⟩
 ·exact ⟨fun g=>by simp [evLen,Tryz.underlying44],rfl,rfl⟩
 ·exact ⟨fun g=>by simp [evLen,Tryz.underlying44],by simp [sameAV],rfl⟩
theorem Iv.tail {K:Nat→Nat} {h:AH} {v:AV} {a:Int} {l:List Int} (hb:Iv K h v (a::l)):∃id off c cs o t v',v=.sl id off (l.length+1) 1 c∧h.get id=some (.cells cs o t)∧cs[off]? = some (.int .i64 a)∧(∀g,evSlice Tryz.prog g 44 v (some (.int .i64 1)) none none=some v')∧Iv K h v' l:=by
 rcases hb with ⟨rfl,hb⟩ | ⟨id,off,c,cs,o,t,rfl,h2,h3,h4,h5,h6,h7⟩
 ·cases hb
 ·have hl:(a::l).length=l.length+1:=rfl
  rw [hl] at h5 h6 h7
  have h0:cs[off]? = some (.int .i64 a):=by
   have:((cs.drop off).take (l.length+1))[0]? = some (.int .i64 a):=by rw [h7];rfl
   rw [List.getElem?_take_of_lt (by omega),List.getElem?_drop] at this
   exact this
  refine ⟨id,off,c,cs,o,t,.sl id (off+1*1) (l.length+1-1) 1 (c.map (· - 1)),rfl,h2,h0,fun g=>?_,.inr ⟨id,off+1,c.map (· - 1),cs,o,t,by simp,h2,h3,h4,fun k hk=>?_,by omega,?_⟩⟩
  ·have hu:upTo (1:Int) (l.length+1)=some 1:=by rw [upTo_of (by omega) (by omega)];simp
   simp [evSlice,Tryz.underlying44,tz3,boundsA,boundA,hu]
  ·cases c with
   | none=>cases hk
   | some c =>
    simp at hk
    have:=h5 c rfl
    omega
  ·have:((cs.drop off).take (l.length+1)).drop 1=((a::l).map (AV.int .i64)).drop 1:=by rw [h7]
   rw [List.drop_take,List.drop_drop] at this
   simpa using this
theorem plain_fil {K:Nat→Nat} {h:AH} {id:Nat} {f:Fil} (hf:FilA K h id f):plainBlock h id=true:=by
 obtain ⟨bv,sv,q1,_⟩:=hf
 simp [plainBlock,q1]
theorem nePP {h:AH} {a b:Nat} (ha:plainBlock h a=true) (hb:plainBlock h b=true):binA Tryz.prog h .neq 93 (.ptr a 0) (.ptr b 0)=some (.bool (!decide (a=b))):=by
 have hi:((Tryz.prog.info? 103).isNone||tsize Tryz.prog 103==some 0)=false:=by kernel_rfl
 show (if eqOk Tryz.prog 93 (.ptr a 0) (.ptr b 0)=true then (eqA Tryz.prog h (11+1) 93 (.ptr a 0) (.ptr b 0)).map fun e=>AV.bool !e else none)=_
 unfold eqA
 simp only [Tryz.underlying93,hi,ha,hb]
 by_cases c:a=b
 ·simp [c,eqOk]
 ·simp [c,eqOk]
theorem neNP (h:AH) (b:Nat):binA Tryz.prog h .neq 93 .nilptr (.ptr b 0)=some (.bool true):=by kernel_rfl
theorem Tr.setNow {K p nm sm chv ρ h T} (hT:Tr K p nm sm chv ρ h T) {h':AH} {E:Ixs} (hE:IxOK T.files.length E) (hm:∃bs ck,h'.get nm=some (.map (enS (mapS (fpt ρ) E)) bs ck)) (hn:h'.nx=h.nx) (ho:∀j,j≠nm→h'.get j=h.get j) :
  Tr K p nm sm chv ρ h' { T with now:=E }:=by
 have ne:∀ {j n},K j=n→n≠2→h'.get j=h.get j:=fun {j n} hj h0=>ho j (fun hh=>by rw [hh,hT.kn] at hj;omega)
 have k5:∀j,K j=5→K j=5∧h'.get j=h.get j:=fun j hj=>⟨hj,ne hj (by omega)⟩
 have k6:∀j,K j=6→K j=6∧h'.get j=h.get j:=fun j hj=>⟨hj,ne hj (by omega)⟩
 obtain ⟨h1,h2,⟨b3,c3,h3⟩,h4,h5,h6,h7,h8,h9,h10,w⟩:=hT
 refine ⟨(ne h7 (by omega)).trans h1,hm,⟨b3,c3,(ne h9 (by omega)).trans h3⟩,h4.mono (n:=T.files.length) k5 k6 (by omega) (fun _ _=>rfl) w.notes,fun i hi=>?_,h6,h7,h8,h9,fun j hj=>h10 j (by omega),⟨hE,w.2,w.3,w.4,w.5,w.6⟩⟩
 obtain ⟨bv,sv,q1,q2,q3,q4⟩:=h5 i hi
 exact ⟨bv,sv,(ne q4 (by omega)).trans q1,q2.mono k5 (by omega),q3.mono k5 (by omega),q4⟩
theorem Tr.newNow {K p nm sm chv ρ h T} (hT:Tr K p nm sm chv ρ h T) {m:Nat} {h':AH} (hm:K m=0) (hp:h'.get p=some (.cells [.bool true,.int .i64 T.room,.map m,.map sm,chv,.int .u64 (T.clock:Nat),.bool T.off,.int .i64 T.fuse] true false)) (hm2:h'.get m=some (.map [] [] 0)) (hml:m<h'.nx) (hn:h.nx≤h'.nx) (ho:∀j,K j≠0→j≠p→h'.get j=h.get j) :
  Tr (fun j=>if j=m then 2 else K j) p m sm chv ρ h' { T with now:=[] }:=by
 have ne:∀ {j n},K j=n→n≠0→(if j=m then 2 else K j)=n:=fun {j n} hj h0=>(if_neg (fun hh=>by rw [hh,hm] at hj;omega)).trans hj
 have he:∀ {j n},K j=n→n≠0→n≠1→h'.get j=h.get j:=fun {j n} hj h0 h1=>ho j (by omega) (fun hh=>by rw [hh,hT.kp] at hj;omega)
 have k5:∀j,K j=5→(if j=m then 2 else K j)=5∧h'.get j=h.get j:=fun j hj=>⟨ne hj (by omega),he hj (by omega) (by omega)⟩
 have k6:∀j,K j=6→(if j=m then 2 else K j)=6∧h'.get j=h.get j:=fun j hj=>⟨ne hj (by omega),he hj (by omega) (by omega)⟩
 obtain ⟨h1,h2,⟨b3,c3,h3⟩,h4,h5,h6,h7,h8,h9,h10,w⟩:=hT
 refine ⟨hp,⟨[],0,hm2⟩,⟨b3,c3,(he h9 (by omega) (by omega)).trans h3⟩,h4.mono (n:=T.files.length) k5 k6 hn (fun _ _=>rfl) w.notes,fun i hi=>?_,h6,ne h7 (by omega),if_pos rfl,ne h9 (by omega),fun j hj=>(if_neg (by omega)).trans (h10 j (by omega)),⟨IxOK.nil _,w.2,w.3,w.4,w.5,w.6⟩⟩
 obtain ⟨bv,sv,q1,q2,q3,q4⟩:=h5 i hi
 exact ⟨bv,sv,(he q4 (by omega) (by omega)).trans q1,q2.mono k5 hn,q3.mono k5 hn,ne q4 (by omega)⟩
theorem Tr.newSafe {K p nm sm ρ h T} (hT:Tr K p nm sm .nilsl ρ h T) {m:Nat} {h':AH} (hm:K m=0) (hp:h'.get p=some (.cells [.bool true,.int .i64 T.room,.map nm,.map m,.nilsl,.int .u64 (T.clock:Nat),.bool false,.int .i64 (-1)] true false)) {b:List Nat} {c:Nat} (hm2:h'.get m=some (.map (enS (mapS (fpt ρ) T.now)) b c)) (hml:m<h'.nx) (hn:h.nx≤h'.nx) (ho:∀j,K j≠0→j≠p→h'.get j=h.get j) :
  Tr (fun j=>if j=m then 3 else K j) p nm m .nilsl ρ h' { T with safe:=T.now,off:=false,fuse:=-1 }:=by
 have ne:∀ {j n},K j=n→n≠0→(if j=m then 3 else K j)=n:=fun {j n} hj h0=>(if_neg (fun hh=>by rw [hh,hm] at hj;omega)).trans hj
 have he:∀ {j n},K j=n→n≠0→n≠1→h'.get j=h.get j:=fun {j n} hj h0 h1=>ho j (by omega) (fun hh=>by rw [hh,hT.kp] at hj;omega)
 have k5:∀j,K j=5→(if j=m then 3 else K j)=5∧h'.get j=h.get j:=fun j hj=>⟨ne hj (by omega),he hj (by omega) (by omega)⟩
 have k6:∀j,K j=6→(if j=m then 3 else K j)=6∧h'.get j=h.get j:=fun j hj=>⟨ne hj (by omega),he hj (by omega) (by omega)⟩
 obtain ⟨h1,⟨b2,c2,h2⟩,h3,h4,h5,h6,h7,h8,h9,h10,w⟩:=hT
 refine ⟨hp,⟨b2,c2,(he h8 (by omega) (by omega)).trans h2⟩,⟨b,c,hm2⟩,h4.mono (n:=T.files.length) k5 k6 hn (fun _ _=>rfl) w.notes,fun i hi=>?_,h6,ne h7 (by omega),ne h8 (by omega),if_pos rfl,fun j hj=>(if_neg (by omega)).trans (h10 j (by omega)),⟨w.1,w.1,w.3,⟨Int.le_refl _,show (-1:Int)≤9223372036854775807 by decide⟩,w.5,w.6⟩⟩
 obtain ⟨bv,sv,q1,q2,q3,q4⟩:=h5 i hi
 exact ⟨bv,sv,(he q4 (by omega) (by omega)).trans q1,q2.mono k5 hn,q3.mono k5 hn,ne q4 (by omega)⟩
theorem bldG {v w:AV} {n:Int} (hv:v=.nilsl∨∃a n c,v=.sl a 0 n 1 c) (hw:w=.nilsl∨∃a n c,w=.sl a 0 n 1 c):evBuild Tryz.prog 103 [(0,v),(1,w),(2,.int .u64 n)]=some (.agg [v,w,.int .u64 n]):=by
 rcases hv with rfl | ⟨a,k,c,rfl⟩ <;> rcases hw with rfl | ⟨a',k',c',rfl⟩ <;> kernel_rfl
structure Cr (K0:Nat→Nat) (h0:AH) (p m sm wm:Nat) (r:AV) (W:List (AV×AV)) (ks:List Pth) (n:Nat) (ρ0:Nat→Nat) (v:AV) (ps:List Int) (T:TT) (g:AH):Prop where
 t:∃K ρ,Tr K p m sm .nilsl ρ g T∧(∀i,i<n→ρ i=ρ0 i)∧Gr K0 h0 K g∧Iv K g v ps∧K wm=0∧(ks=[]∨∃kid,r=.sl kid 0 ks.length 1 none∧g.get kid=some (.cells (ks.map .str) true false)∧kid<g.nx∧K kid=0)
 w:∃bs ck,g.get wm=some (.map W bs ck)
 wl:wm<g.nx
section
variable {S : Sums}
theorem crashC (hS:St S) {K p nm sm chv ρ h T} (hT:Tr K p nm sm chv ρ h T) (hm:Sm T) (hc:T.clock<1152921504606000000) (keep:Int) {v:AV} {ps:List Int} (hv:Iv K h v ps) (hks:(keepT T ((max 0 keep).toNat%(T.notes.length+1))).safe.length≤16384) :
  RnC Tryz.prog S 21 [.ptr p 0,.int .i64 keep,v] h fun r h'=>r=.int .i64 0∧Res K p h h' (crashT T keep ps):=by
 refine RnC.enter' Tryz.f21 _ 117 [.tmp 6] (hS.nt _ _ _ (by simp)) bd21 Tryz.func21 rfl rfl rfl ?_
 have hpl:p<h.nx:=hT.lt (by rw [hT.kp];decide)
 have hp:=hT.pp
 obtain ⟨lv,sv,ov⟩:=hv.ln
 simp -dsimp (disch:=(repeat first | rw [nxn] | rw [nxp]);try omega) only [go_sem]
 refine callK_of (hT.made hS) ?_
 rintro r h2 ⟨rfl,rfl⟩
 simp -dsimp (disch:=(repeat first | rw [nxn] | rw [nxp]);try omega) only [go_sem,hp]
 obtain ⟨bw,cw,hnow⟩:=hT.now
 refine callK_of (cloneMC hS hnow) ?_
 rintro r h3 ⟨rfl,rfl⟩
 generalize h3e:h2.new (.map (enS (mapS (fpt ρ) T.now)) bw cw)=h3
 have f3:Fr h2 h3:=h3e▸Fr.new _ _
 have n3:h3.nx=h2.nx+1:=by rw [←h3e];rfl
 have w3:h3.get h2.nx=some (.map (enS (mapS (fpt ρ) T.now)) bw cw):=by rw [←h3e];exact AH.get_new_eq rfl
 have hT3:=hT.fr f3
 have hp3:=hT3.pp
 obtain ⟨lc,_,oc⟩:=hT3.ch.shape
 have e0:0≤max 0 keep:=by omega
 have em:(max 0 keep).tmod (((T.notes.length:Nat):Int)+1)=(((max 0 keep).toNat%(T.notes.length+1):Nat):Int):=tmodN (n:=T.notes.length+1) e0 (by omega)
 have hmod:(max 0 keep).toNat%(T.notes.length+1)<T.notes.length+1:=Nat.mod_lt _ (by omega)
 have cz:¬((T.notes.length:Nat):Int)+1=0:=by omega
 have hno:=hm.notes
 unfold crashT
 dsimp only
 generalize (max 0 keep).toNat%(T.notes.length+1)=kk at em hmod hks
 simp -dsimp (disch:=(repeat first | rw [nxn] | rw [nxp]);try omega) only [go_sem,hp3,lc,oc,em,cz]
 refine callK_of (keepC hS hT3 (by omega) hno) ?_
 rintro r h4 ⟨rfl,hT4,n4,o4⟩
 refine callK_of (tickC hS hT4 (by show T.clock<_;exact hm.clock)) ?_
 rintro r h5 ⟨rfl,hT5,n5,o5⟩
 have hp5:=hT5.pp
 have n5':h5.nx=h2.nx+1:=by rw [n5,n4,n3]
 have hT6:=hT5.newNow (m:=h5.nx) (h':=(h5.new (.map [] [] 0)).put p (.cells [.bool true,.int .i64 (tickT (keepT T kk)).room,.map h5.nx,.map sm,.nilsl,.int .u64 ((tickT (keepT T kk)).clock:Nat),.bool (tickT (keepT T kk)).off,.int .i64 (tickT (keepT T kk)).fuse] true false)) (hT5.top _ (Nat.le_refl _)) (AH.get_put_eq rfl) ((AH.get_put_ne (by omega)).trans (AH.get_new_eq rfl)) (Nat.lt_succ_self _) (Nat.le_succ _) (fun j hj hjp=>(AH.get_put_ne hjp).trans (AH.get_new_ne (by have:=hT5.lt hj;omega)))
 have hp6:=hT6.pp
 simp -dsimp (disch:=(repeat first | rw [nxn] | rw [nxp]);try omega) only [go_sem,hp5]
 generalize h6e:(h5.new (.map [] [] 0)).put p (.cells [.bool true,.int .i64 (tickT (keepT T kk)).room,.map h5.nx,.map sm,.nilsl,.int .u64 ((tickT (keepT T kk)).clock:Nat),.bool (tickT (keepT T kk)).off,.int .i64 (tickT (keepT T kk)).fuse] true false)=h6 at hT6 hp6
 have n6:h6.nx=h2.nx+2:=by rw [←h6e];show h5.nx+1=_;omega
 have g6:Gr K h2 (fun j=>if j=h5.nx then 2 else K j) h6:=⟨by omega,fun j hj hk=>by
  have hjp:j≠p:=fun hh=>by rw [hh,hT.kp] at hk;cases hk
  refine ⟨?_,(if_neg (by omega)).trans hk⟩
  rw [←h6e]
  exact (AH.get_put_ne hjp).trans ((AH.get_new_ne (by omega)).trans ((o5 j hjp).trans ((o4 j hk).trans (f3.get j hj))))⟩
 have w6:h6.get h2.nx=some (.map (enS (mapS (fpt ρ) T.now)) bw cw):=by
  have hk0:K h2.nx=0:=hT.top _ (Nat.le_refl _)
  have hjp:h2.nx≠p:=by omega
  rw [←h6e]
  exact (AH.get_put_ne hjp).trans ((AH.get_new_ne (by omega)).trans ((o5 _ hjp).trans ((o4 _ hk0).trans w3)))
 have hsz:(keepT T kk).safe.length≤16384:=hks
 refine callK_of (keysC hS) ?_
 rintro r h7 ⟨rfl,h7e⟩
 have f7:Fr h6 h7:=by rw [h7e];exact Fr.new _ _
 have hT7:=hT6.fr f7
 refine callK_of (sortedC hS (b:=h6.nx) (by rw [h7e];exact AH.get_new_eq rfl) hT7.safe hT7.wf.safe hsz) ?_
 rintro r h8 ⟨hss,f8⟩
 have hT8:=hT7.fr f8
 have n7:h7.nx=h2.nx+3:=by rw [h7e];show h6.nx+1=_;omega
 have f68:=f7.trans f8
 have hklen:(sortS ((keepT T kk).safe.map (·.1))).length≤16384:=by rw [sortS_len,List.length_map];exact hsz
 have hkmem:∀s∈sortS ((keepT T kk).safe.map (·.1)),∃i,valS (keepT T kk).safe s=some i∧i<T.files.length:=fun s hs=>by
  obtain ⟨e,he,rfl⟩:=List.mem_map.1 (sortS_mem hs)
  have w:=(hT.wf.keep kk).safe
  exact ⟨e.2,mem_valS w.1 e he,(w.2 _ _ (mem_valS w.1 e he)).1⟩
 change Ss h7.nx h8 r (sortS ((keepT T kk).safe.map (·.1))) at hss
 generalize hkse:sortS ((keepT T kk).safe.map (·.1))=ks at hss hklen hkmem
 have hlk:(∀g,evLen Tryz.prog g #[66] r=some (.int .i64 (ks.length:Nat)))∧oneA r=true:=by
  rcases hss with ⟨rfl,rfl⟩ | ⟨id,rfl,_⟩
  ·exact ⟨fun g=>by simp [evLen,Tryz.underlying66],rfl⟩
  ·exact ⟨fun g=>by simp [evLen,Tryz.underlying66],rfl⟩
 obtain ⟨lk,ok_⟩:=hlk
 simp -dsimp (disch:=(repeat first | rw [nxn] | rw [nxp]);try omega) only [go_sem,lk,ok_]
 have hT1e:∀l q,(crashL T.now { keepT T kk with clock:=(keepT T kk).clock+1,now:=[] } l q).safe=(keepT T kk).safe∧T.files.length≤(crashL T.now { keepT T kk with clock:=(keepT T kk).clock+1,now:=[] } l q).files.length∧(crashL T.now { keepT T kk with clock:=(keepT T kk).clock+1,now:=[] } l q).clock≤T.clock+1+l.length:=fun l q=>by
  obtain ⟨a1,a2,a3,_⟩:=crashL_eq T.now l { keepT T kk with clock:=(keepT T kk).clock+1,now:=[] } q
  exact ⟨a1,a2,a3⟩
 have hcr0:Cr K h2 p h5.nx sm h2.nx r (enS (mapS (fpt ρ) T.now)) ks T.files.length ρ v ps { keepT T kk with clock:=(keepT T kk).clock+1,now:=[] } h8:=by
  have hg:Gr K h2 (fun j=>if j=h5.nx then 2 else K j) h8:=g6.trans (frGr f68 _)
  refine ⟨⟨_,ρ,hT8,fun _ _=>rfl,hg,hv.gr hg,?_,?_⟩,⟨bw,cw,(f68.get _ (by omega)).trans w6⟩,by have:=f68.nx;omega⟩
  ·exact (if_neg (by omega)).trans (hT.top _ (Nat.le_refl _))
  ·rcases hss with ⟨_,h0⟩ | ⟨id,e1,e2,e3,e4⟩
   ·exact .inl h0
   ·exact .inr ⟨id,e1,e2,e3,(if_neg (by omega)).trans (hT.top _ (by omega))⟩
 generalize ({ keepT T kk with clock:=(keepT T kk).clock+1,now:=[] }:TT)=T1 at hcr0 hT1e ⊢
 have hcl:=hm.clock
 refine loopK_of (RnL.rounds (Q:=fun ex u=>ex=.exit 0∧u.d=[]∧u.t.get 0=some (.ptr p 0)∧∃v',Cr K h2 p h5.nx sm h2.nx r (enS (mapS (fpt ρ) T.now)) ks T.files.length ρ v' (ps.drop ks.length) (crashL T.now T1 ks ps) u.h)
  (fun m u=>u.d=[]∧u.t.get 0=some (.ptr p 0)∧u.t.get 7=some (.map h2.nx)∧u.t.get 44=some r∧u.t.get 45=some (.int .i64 (ks.length:Nat))∧∃(i:Nat) (v':AV),u.t.get 46=some (.int .i64 (i:Nat))∧u.t.get 2=some v'∧i≤ks.length∧Cr K h2 p h5.nx sm h2.nx r (enS (mapS (fpt ρ) T.now)) ks T.files.length ρ v' (ps.drop i) (crashL T.now T1 (ks.take i) ps) u.h∧m=ks.length-i) ?_ ks.length ?_) ?_
 ·rintro m ⟨t,g,d⟩ ⟨e2,g0,g7,g44,g45,i,v',g46,g2,hi,hcr,rfl⟩
  dsimp only at e2 g0 g7 g44 g45 g46 g2 hcr
  subst e2
  by_cases c4:(i:Int)<(ks.length:Nat)
  ·have hil:i<ks.length:=by omega
   obtain ⟨s,hs⟩:∃s,ks[i]? = some s:=⟨_,List.getElem?_eq_getElem hil⟩
   obtain ⟨x,hx,hxl⟩:=hkmem s (List.mem_iff_getElem?.2 ⟨i,hs⟩)
   obtain ⟨⟨K',ρ',hT',hρ,hgr,hiv,kw,hkk⟩,⟨wb,wc,hw⟩,hwl⟩:=hcr
   obtain ⟨z1,z2,z3⟩:=hT1e (ks.take i) ps
   have z3':(crashL T.now T1 (ks.take i) ps).clock<1152921504606846976:=by rw [List.length_take] at z3;omega
   have hnext:=crashL_take (was:=T.now) (T:=T1) (ps:=ps) hs
   generalize hTi:crashL T.now T1 (ks.take i) ps=Ti at hT' z1 z2 z3' hnext
   have hxi:x<Ti.files.length:=by omega
   rw [←z1] at hx
   rcases hkk with h0 | ⟨kid,rfl,hkg,hkl,hk0⟩
   ·rw [h0] at hil;simp at hil
   have hcs:(ks.map AV.str)[i]? = some (.str s):=by simp [hs]
   have hp':=hT'.pp
   have lks:=lookN hT'.safe s
   rw [hx] at lks
   have hfx:=hT'.fl x hxi
   obtain ⟨bv,sv',q1,q2,q3,q4⟩:=hfx
   have hrl:ρ' x<g.nx:=hT'.lt (by omega)
   obtain ⟨lv',sv2,ov'⟩:=hiv.ln
   have fo:=fil_ok hT'.wf x
   have g2':t.get 2=some v':=g2
   cases hpd:ps.drop i with
   | nil =>
    rw [hpd] at lv' hiv hnext
    have hiv0:=hiv
    simp -dsimp (disch:=(repeat first | rw [nxn] | rw [nxp]);try omega) only [go_sem,c4,hil,hkg,hcs,hp',lks,lv',ov',Nat.mul_one,g0,g7,g44,g45,g46,g2']
    have e0p:hd0 []=0:=rfl
    rw [e0p] at hnext
    unfold crash1 at hnext
    rw [hx] at hnext
    dsimp only at hnext
    have hfx1:FilA K' g (ρ' x) (Ti.fil x):=⟨bv,sv',((Fr.refl g).get _ hrl).trans q1,q2.mono (fun j hj=>⟨hj,(Fr.refl g).get _ (hT'.lt (by omega))⟩) (Fr.refl g).nx,q3.mono (fun j hj=>⟨hj,(Fr.refl g).get _ (hT'.lt (by omega))⟩) (Fr.refl g).nx,q4⟩
    refine callK_of (leftFC hS hfx1 (Nat.lt_of_lt_of_le hrl (Fr.refl g).nx) fo 0) ?_
    rintro rb g2 ⟨hb2,f2⟩
    have hbok:=leftF_ok fo 0 0
    have ob2:=(bsLn hb2).2.2
    generalize hbe:leftF (Ti.fil x) 0=b at hb2 hbok hnext
    refine callK_of (cloneC hS hb2 (by have:=hbok.2.2.1;simp only at this;omega)) ?_
    rintro r3 g3 ⟨hb3,f3'⟩
    have f13:Fr g g3:=((Fr.refl g).trans f2).trans f3'
    obtain ⟨lr3,sr3,or3⟩:=bsLn hb3.bs
    have q5:g3.get (ρ' x)=_:=(f13.get _ hrl).trans q1
    have hn13:=f13.nx
    refine syDraw.keep (fun j=>j<g3.nx) (by kernel_rfl) (by kernel_rfl) ?_
    simp -dsimp (disch:=(repeat first | rw [nxn] | rw [nxp]);try omega) only [go_sem,or3,sr3,true_and,implies_true,sv_int,sv_bool,c4,hil,Nat.mul_one,g0,g7,g44,g45,g46,g2']
    have f4a:Fr g3 { tr:=g3.tr,nx:=g3.nx+10 }:=(Fr.refl g3).more _ (by omega)
    refine callK_of (cloneC hS (hb3.bs.fr f4a) (by have:=hbok.2.2.1;simp only at this;omega)) ?_
    rintro r4 g4 ⟨hb4,f4⟩
    obtain ⟨lr4,sr4,or4⟩:=bsLn hb4.bs
    have f34:=f4a.trans f4
    have hn4:g3.nx+10≤g4.nx:=f4.nx
    refine ⟨fun id hid=>f34.get id hid,?_⟩
    have q6:g4.get (ρ' x)=_:=(f34.get _ (Nat.lt_of_lt_of_le hrl hn13)).trans q5
    have hrl3:ρ' x<g3.nx:=Nat.lt_of_lt_of_le hrl hn13
    have bG:=bldG (n:=((Ti.fil x).st:Nat)) hb3.shape hb4.shape
    simp -dsimp (disch:=(repeat first | rw [nxn] | rw [nxp]);try omega) only [go_sem,or3,or4,sr3,sr4,q6,hrl3,bG,true_and,implies_true,sv_int,sv_bool,c4,hil,Nat.mul_one,g0,g7,g44,g45,g46,g2']
    generalize hg5:g4.put (g3.nx+8) (.cells [r3,r4,.int .u64 ((Ti.fil x).st:Nat)] true false)=g5
    generalize hK2e:(fun j=>if j=g3.nx+8 then 4 else if (g2.nx≤j∧j<g3.nx)∨(g3.nx+10≤j∧j<g4.nx) then 5 else K' j)=K2
    have n5x:g5.nx=g4.nx:=by rw [←hg5];rfl
    have hn12:g.nx≤g2.nx:=by have h1:=((Fr.refl g)).nx;have h2':=f2.nx;omega
    have hn23:g2.nx≤g3.nx:=f3'.nx
    have hk28:K2 (g3.nx+8)=4:=by rw [←hK2e];exact if_pos rfl
    have hK2:∀j,j<g.nx→K2 j=K' j:=fun j hj=>by
     rw [←hK2e]
     exact (if_neg (by omega)).trans (if_neg (by omega))
    have hK3:∀j,g2.nx≤j→j<g3.nx→K2 j=5:=fun j h1 h2=>by
     rw [←hK2e]
     exact (if_neg (by omega)).trans (if_pos (.inl ⟨h1,h2⟩))
    have hK4:∀j,g3.nx+10≤j→j<g4.nx→K2 j=5:=fun j h1 h2=>by
     rw [←hK2e]
     exact (if_neg (by omega)).trans (if_pos (.inr ⟨h1,h2⟩))
    have hfg5:∀j,j<g.nx→g5.get j=g.get j:=fun j hj=>by
     rw [←hg5]
     exact (AH.get_put_ne (by omega)).trans ((f34.get j (by omega)).trans (f13.get j hj))
    have h35:∀j,j<g3.nx→g5.get j=g3.get j:=fun j hj=>by
     rw [←hg5]
     exact (AH.get_put_ne (by omega)).trans (f34.get j hj)
    have hby3:By K2 g5 r3 b:=by
     rcases hb3 with h1 | ⟨id,c,cs,tx,h1,h2',h3',h4,h5⟩
     ·exact .inl h1
     ·exact .inr ⟨id,c,cs,tx,h1,(h35 id h3').trans h2',by omega,hK3 id h4 h3',h5⟩
    have hby4:By K2 g5 r4 b:=by
     rcases hb4 with h1 | ⟨id,c,cs,tx,h1,h2',h3',h4,h5⟩
     ·exact .inl h1
     ·have h4':g3.nx+10≤id:=h4
      exact .inr ⟨id,c,cs,tx,h1,by rw [←hg5];exact (AH.get_put_ne (by omega)).trans h2',by omega,hK4 id h4' h3',h5⟩
    have hTA:=hT'.addF (K':=K2) (id:=g3.nx+8) (f:=⟨b,b,(Ti.fil x).st⟩) (h':=g5) (fun j hj=>⟨hK2 j (hT'.lt hj),hfg5 j (hT'.lt hj)⟩) (hT'.top _ (by omega)) ⟨r3,r4,by rw [←hg5];exact AH.get_put_eq rfl,hby3,hby4,hk28⟩ (by omega) (fun j hj=>by
     rw [←hK2e]
     exact (if_neg (by omega)).trans ((if_neg (by omega)).trans (hT'.top j (by omega)))) (Wf.grow hT'.wf ⟨b,b,(Ti.fil x).st⟩ hbok Ti.clock)
    have hr2:(if Ti.files.length=Ti.files.length then g3.nx+8 else ρ' Ti.files.length)=g3.nx+8:=if_pos rfl
    have hpA:=hTA.pp
    have hs69:s.length≤69:=(hT'.wf.safe.2 s x hx).2
    have hpl2:∀y,y<Ti.files.length→plainBlock g5 (ρ' y)=true:=fun y hy=>by
     have:=plain_fil (hTA.fl y (by simp;omega))
     rw [if_neg (show ¬y=Ti.files.length by omega)] at this
     exact this
    have lkw:=lookN (h:=g5) (m:=h2.nx) (ρ:=ρ) (E:=T.now) ⟨wb,wc,(hfg5 _ hwl).trans hw⟩ s
    have hd1:ps.drop (i+1)=[]:=by rw [←List.drop_drop (i:=1),hpd];rfl
    cases hvn:valS T.now s with
    | none =>
     rw [hvn] at lkw
     have hno2:¬(valS T.now s=some x∧b=(Ti.fil x).b):=fun hh=>by rw [hvn] at hh;cases hh.1
     simp -dsimp (disch:=(repeat first | rw [nxn] | rw [nxp]);try omega) only [go_sem,hg5,lkw,neNP,or3,or4,true_and,implies_true,sv_int,sv_bool,c4,hil,Nat.mul_one,g0,g7,g44,g45,g46,g2']
     refine callK_of (tickC hS hTA (by show Ti.clock<_;omega)) ?_
     rintro r6 g6 ⟨rfl,hT6,n6',o6⟩
     have n6'':g6.nx=g4.nx:=by rw [n6',←hg5];rfl
     have hfi:g6.get (g3.nx+8)=some (.cells [r3,r4,.int .u64 ((Ti.fil x).st:Nat)] true false):=(o6 _ (by omega)).trans (by rw [←hg5];exact AH.get_put_eq rfl)
     have hlt:Ti.files.length<(Ti.files++[(⟨b,b,Ti.clock+1⟩:Fil)]).length:=by simp
     have efs:(Ti.files++[(⟨b,b,(Ti.fil x).st⟩:Fil)]).set Ti.files.length ⟨b,b,Ti.clock+1⟩=Ti.files++[⟨b,b,Ti.clock+1⟩]:=by simp
     have hT7:=hT6.file (i:=Ti.files.length) (K':=K2) (f:=⟨b,b,Ti.clock+1⟩) (h':=g6.put (g3.nx+8) (.cells [r3,r4,.int .u64 ((Ti.clock+1:Nat):Int)] true false)) (by show Ti.files.length<(Ti.files++[_]).length;simp) (fun j hj=>⟨rfl,fun hji=>AH.get_put_ne (fun hh=>hji (hh.trans hr2.symm))⟩) (by
      rw [hr2]
      refine ⟨r3,r4,AH.get_put_eq rfl,hby3.mono (fun j hj=>⟨hj,?_⟩) (by show g5.nx≤g6.nx;omega),hby4.mono (fun j hj=>⟨hj,?_⟩) (by show g5.nx≤g6.nx;omega),hk28⟩
      ·exact (AH.get_put_ne (fun hh=>by rw [hh,hk28] at hj;cases hj)).trans (o6 j (fun hh=>by rw [hh,hTA.kp] at hj;cases hj))
      ·exact (AH.get_put_ne (fun hh=>by rw [hh,hk28] at hj;cases hj)).trans (o6 j (fun hh=>by rw [hh,hTA.kp] at hj;cases hj))) (Nat.le_refl _) (fun j hj=>hT6.top j hj) (by
      have w:=hT6.wf
      refine Wf.set w _ ?_ _
      exact ⟨hbok.1,hbok.2.1,hbok.2.2.1,hbok.2.2.2⟩)
     have e7:({ tickT { Ti with files:=Ti.files++[⟨b,b,(Ti.fil x).st⟩] } with files:=(tickT { Ti with files:=Ti.files++[(⟨b,b,(Ti.fil x).st⟩:Fil)] }).files.set Ti.files.length ⟨b,b,Ti.clock+1⟩ }:TT)={ Ti with clock:=Ti.clock+1,files:=Ti.files++[⟨b,b,Ti.clock+1⟩] }:=by
      show (⟨Ti.room,Ti.now,Ti.safe,Ti.notes,Ti.clock+1,Ti.off,Ti.fuse,(Ti.files++[(⟨b,b,(Ti.fil x).st⟩:Fil)]).set Ti.files.length ⟨b,b,Ti.clock+1⟩⟩:TT)=_
      rw [efs]
     rw [e7] at hT7
     have hp7:=hT7.pp
     obtain ⟨bs',ck',hu⟩:=setN hT7.now s Ti.files.length
     rw [hr2] at hu
     simp (maxSteps:=1000000) -dsimp (disch:=(repeat first | rw [nxn] | rw [nxp]);try omega) only [go_sem,hg5,hfi,hp7,hu,or3,or4,true_and,implies_true,sv_int,sv_bool,c4,hil,Nat.mul_one,g0,g7,g44,g45,g46,g2']
     rw [if_neg (fun hh=>hno2 hh)] at hnext
     have hT8:=hT7.setNow (h':=(g6.put (g3.nx+8) (.cells [r3,r4,.int .u64 ((Ti.clock+1:Nat):Int)] true false)).put h5.nx (.map (enS (mapS (fpt (fun j=>if j=Ti.files.length then g3.nx+8 else ρ' j)) (updS Ti.now s Ti.files.length))) bs' ck')) (hT7.wf.now.upd s hlt hs69) ⟨bs',ck',AH.get_put_eq rfl⟩ rfl (fun j hj=>AH.get_put_ne hj)
     have hfr:∀o o' j,j<g.nx→j≠h5.nx→j≠p→((g6.put (g3.nx+8) o).put h5.nx o').get j=g.get j:=fun o o' j hj hj2 hj3=>(AH.get_put_ne hj2).trans ((AH.get_put_ne (by omega)).trans ((o6 j hj3).trans (hfg5 j hj)))
     have hnx8:g.nx≤g6.nx:=by omega
     refine ⟨ks.length-(i+1),by omega,i+1,v',rfl,rfl,by omega,?_,rfl⟩
     rw [hnext,hd1]
     have hgr8:Gr K' g K2 ((g6.put (g3.nx+8) (.cells [r3,r4,.int .u64 ((Ti.clock+1:Nat):Int)] true false)).put h5.nx (.map (enS (mapS (fpt (fun j=>if j=Ti.files.length then g3.nx+8 else ρ' j)) (updS Ti.now s Ti.files.length))) bs' ck')):=⟨hnx8,fun j hj hk=>⟨hfr _ _ j hj (fun hh=>by rw [hh,hT'.kn] at hk;cases hk) (fun hh=>by rw [hh,hT'.kp] at hk;cases hk),(hK2 j hj).trans hk⟩⟩
     refine ⟨⟨K2,_,hT8,fun y hy=>?_,hgr.trans hgr8,hiv0.gr hgr8,(hK2 _ hwl).trans kw,.inr ⟨kid,rfl,(hgr8.get _ hkl hk0).1.trans hkg,Nat.lt_of_lt_of_le hkl hnx8,(hgr8.get _ hkl hk0).2⟩⟩,⟨wb,wc,(hgr8.get _ hwl kw).1.trans hw⟩,Nat.lt_of_lt_of_le hwl hnx8⟩
     exact (if_neg (by omega)).trans (hρ y hy)
    | some y =>
     rw [hvn] at lkw
     have hyl:y<T.files.length:=(hT.wf.now.2 s y hvn).1
     have ey:ρ y=ρ' y:=(hρ y hyl).symm
     dsimp only at lkw
     rw [ey] at lkw
     have hne:=nePP (hpl2 y (by omega)) (hpl2 x hxi)
     by_cases hyx:y=x
     ·have hne2:binA Tryz.prog g5 .neq 93 (.ptr (ρ' y) 0) (.ptr (ρ' x) 0)=some (.bool false):=by rw [hne,hyx];simp
      have q7:g5.get (ρ' x)=_:=(hfg5 _ hrl).trans q1
      simp -dsimp (disch:=(repeat first | rw [nxn] | rw [nxp]);try omega) only [go_sem,hg5,lkw,hne2,q7,or3,or4,true_and,implies_true,sv_int,sv_bool,c4,hil,Nat.mul_one,g0,g7,g44,g45,g46,g2']
      have hbv5:Bs g5 bv (Ti.fil x).b:=(q2.mono (K':=K') (h':=g5) (fun j hj=>⟨hj,hfg5 j (hT'.lt (by omega))⟩) (by omega)).bs
      refine callK_of (equalC hS hby3.bs hbv5 hbok.1 fo.1) ?_
      rintro rq gq ⟨rfl,hgq⟩
      have hgq':=hgq.symm
      subst hgq'
      by_cases hbb:b=(Ti.fil x).b
      ·have dbb:decide (b=(Ti.fil x).b)=true:=by simpa using hbb
       simp -dsimp (disch:=(repeat first | rw [nxn] | rw [nxp]);try omega) only [go_sem,hg5,dbb,c4,hil,Nat.mul_one,g0,g7,g44,g45,g46,g2']
       have hlt:Ti.files.length<(Ti.files++[(⟨b,b,(Ti.fil x).st⟩:Fil)]).length:=by simp
       obtain ⟨bs',ck',hu⟩:=setN hTA.now s Ti.files.length
       rw [hr2] at hu
       simp -dsimp (disch:=(repeat first | rw [nxn] | rw [nxp]);try omega) only [go_sem,hg5,hpA,hu,or3,or4,true_and,implies_true,sv_int,sv_bool,c4,hil,Nat.mul_one,g0,g7,g44,g45,g46,g2']
       rw [if_pos ⟨by rw [hvn,hyx],hbb⟩] at hnext
       have hT8:=hTA.setNow (h':=g5.put h5.nx (.map (enS (mapS (fpt (fun j=>if j=Ti.files.length then g3.nx+8 else ρ' j)) (updS Ti.now s Ti.files.length))) bs' ck')) (hTA.wf.now.upd s hlt hs69) ⟨bs',ck',AH.get_put_eq rfl⟩ rfl (fun j hj=>AH.get_put_ne hj)
       have hfr:∀o j,j<g.nx→j≠h5.nx→j≠p→(g5.put h5.nx o).get j=g.get j:=fun o j hj hj2 hj3=>(AH.get_put_ne hj2).trans (hfg5 j hj)
       have hnx8:g.nx≤g5.nx:=by omega
       refine ⟨ks.length-(i+1),by omega,i+1,v',rfl,rfl,by omega,?_,rfl⟩
       rw [hnext,hd1]
       have hgr8:Gr K' g K2 (g5.put h5.nx (.map (enS (mapS (fpt (fun j=>if j=Ti.files.length then g3.nx+8 else ρ' j)) (updS Ti.now s Ti.files.length))) bs' ck')):=⟨hnx8,fun j hj hk=>⟨hfr _ j hj (fun hh=>by rw [hh,hT'.kn] at hk;cases hk) (fun hh=>by rw [hh,hT'.kp] at hk;cases hk),(hK2 j hj).trans hk⟩⟩
       refine ⟨⟨K2,_,hT8,fun y hy=>?_,hgr.trans hgr8,hiv0.gr hgr8,(hK2 _ hwl).trans kw,.inr ⟨kid,rfl,(hgr8.get _ hkl hk0).1.trans hkg,Nat.lt_of_lt_of_le hkl hnx8,(hgr8.get _ hkl hk0).2⟩⟩,⟨wb,wc,(hgr8.get _ hwl kw).1.trans hw⟩,Nat.lt_of_lt_of_le hwl hnx8⟩
       exact (if_neg (by omega)).trans (hρ y hy)
      ·have dbb:decide (b=(Ti.fil x).b)=false:=by simpa using hbb
       have hno2:¬(valS T.now s=some x∧b=(Ti.fil x).b):=fun hh=>hbb hh.2
       simp -dsimp (disch:=(repeat first | rw [nxn] | rw [nxp]);try omega) only [go_sem,hg5,dbb,c4,hil,Nat.mul_one,g0,g7,g44,g45,g46,g2']
       refine callK_of (tickC hS hTA (by show Ti.clock<_;omega)) ?_
       rintro r6 g6 ⟨rfl,hT6,n6',o6⟩
       have n6'':g6.nx=g4.nx:=by rw [n6',←hg5];rfl
       have hfi:g6.get (g3.nx+8)=some (.cells [r3,r4,.int .u64 ((Ti.fil x).st:Nat)] true false):=(o6 _ (by omega)).trans (by rw [←hg5];exact AH.get_put_eq rfl)
       have hlt:Ti.files.length<(Ti.files++[(⟨b,b,Ti.clock+1⟩:Fil)]).length:=by simp
       have efs:(Ti.files++[(⟨b,b,(Ti.fil x).st⟩:Fil)]).set Ti.files.length ⟨b,b,Ti.clock+1⟩=Ti.files++[⟨b,b,Ti.clock+1⟩]:=by simp
       have hT7:=hT6.file (i:=Ti.files.length) (K':=K2) (f:=⟨b,b,Ti.clock+1⟩) (h':=g6.put (g3.nx+8) (.cells [r3,r4,.int .u64 ((Ti.clock+1:Nat):Int)] true false)) (by show Ti.files.length<(Ti.files++[_]).length;simp) (fun j hj=>⟨rfl,fun hji=>AH.get_put_ne (fun hh=>hji (hh.trans hr2.symm))⟩) (by
        rw [hr2]
        refine ⟨r3,r4,AH.get_put_eq rfl,hby3.mono (fun j hj=>⟨hj,?_⟩) (by show g5.nx≤g6.nx;omega),hby4.mono (fun j hj=>⟨hj,?_⟩) (by show g5.nx≤g6.nx;omega),hk28⟩
        ·exact (AH.get_put_ne (fun hh=>by rw [hh,hk28] at hj;cases hj)).trans (o6 j (fun hh=>by rw [hh,hTA.kp] at hj;cases hj))
        ·exact (AH.get_put_ne (fun hh=>by rw [hh,hk28] at hj;cases hj)).trans (o6 j (fun hh=>by rw [hh,hTA.kp] at hj;cases hj))) (Nat.le_refl _) (fun j hj=>hT6.top j hj) (by
        have w:=hT6.wf
        refine Wf.set w _ ?_ _
        exact ⟨hbok.1,hbok.2.1,hbok.2.2.1,hbok.2.2.2⟩)
       have e7:({ tickT { Ti with files:=Ti.files++[⟨b,b,(Ti.fil x).st⟩] } with files:=(tickT { Ti with files:=Ti.files++[(⟨b,b,(Ti.fil x).st⟩:Fil)] }).files.set Ti.files.length ⟨b,b,Ti.clock+1⟩ }:TT)={ Ti with clock:=Ti.clock+1,files:=Ti.files++[⟨b,b,Ti.clock+1⟩] }:=by
        show (⟨Ti.room,Ti.now,Ti.safe,Ti.notes,Ti.clock+1,Ti.off,Ti.fuse,(Ti.files++[(⟨b,b,(Ti.fil x).st⟩:Fil)]).set Ti.files.length ⟨b,b,Ti.clock+1⟩⟩:TT)=_
        rw [efs]
       rw [e7] at hT7
       have hp7:=hT7.pp
       obtain ⟨bs',ck',hu⟩:=setN hT7.now s Ti.files.length
       rw [hr2] at hu
       simp (maxSteps:=1000000) -dsimp (disch:=(repeat first | rw [nxn] | rw [nxp]);try omega) only [go_sem,hg5,hfi,hp7,hu,or3,or4,true_and,implies_true,sv_int,sv_bool,c4,hil,Nat.mul_one,g0,g7,g44,g45,g46,g2']
       rw [if_neg (fun hh=>hno2 hh)] at hnext
       have hT8:=hT7.setNow (h':=(g6.put (g3.nx+8) (.cells [r3,r4,.int .u64 ((Ti.clock+1:Nat):Int)] true false)).put h5.nx (.map (enS (mapS (fpt (fun j=>if j=Ti.files.length then g3.nx+8 else ρ' j)) (updS Ti.now s Ti.files.length))) bs' ck')) (hT7.wf.now.upd s hlt hs69) ⟨bs',ck',AH.get_put_eq rfl⟩ rfl (fun j hj=>AH.get_put_ne hj)
       have hfr:∀o o' j,j<g.nx→j≠h5.nx→j≠p→((g6.put (g3.nx+8) o).put h5.nx o').get j=g.get j:=fun o o' j hj hj2 hj3=>(AH.get_put_ne hj2).trans ((AH.get_put_ne (by omega)).trans ((o6 j hj3).trans (hfg5 j hj)))
       have hnx8:g.nx≤g6.nx:=by omega
       refine ⟨ks.length-(i+1),by omega,i+1,v',rfl,rfl,by omega,?_,rfl⟩
       rw [hnext,hd1]
       have hgr8:Gr K' g K2 ((g6.put (g3.nx+8) (.cells [r3,r4,.int .u64 ((Ti.clock+1:Nat):Int)] true false)).put h5.nx (.map (enS (mapS (fpt (fun j=>if j=Ti.files.length then g3.nx+8 else ρ' j)) (updS Ti.now s Ti.files.length))) bs' ck')):=⟨hnx8,fun j hj hk=>⟨hfr _ _ j hj (fun hh=>by rw [hh,hT'.kn] at hk;cases hk) (fun hh=>by rw [hh,hT'.kp] at hk;cases hk),(hK2 j hj).trans hk⟩⟩
       refine ⟨⟨K2,_,hT8,fun y hy=>?_,hgr.trans hgr8,hiv0.gr hgr8,(hK2 _ hwl).trans kw,.inr ⟨kid,rfl,(hgr8.get _ hkl hk0).1.trans hkg,Nat.lt_of_lt_of_le hkl hnx8,(hgr8.get _ hkl hk0).2⟩⟩,⟨wb,wc,(hgr8.get _ hwl kw).1.trans hw⟩,Nat.lt_of_lt_of_le hwl hnx8⟩
       exact (if_neg (by omega)).trans (hρ y hy)
     ·have hne2:binA Tryz.prog g5 .neq 93 (.ptr (ρ' y) 0) (.ptr (ρ' x) 0)=some (.bool true):=by
       rw [hne]
       have:¬ρ' y=ρ' x:=fun hh=>hyx (hT'.inj y x (by omega) hxi hh)
       simp [this]
      have hno2:¬(valS T.now s=some x∧b=(Ti.fil x).b):=fun hh=>by rw [hvn] at hh;exact hyx (Option.some.inj hh.1)
      simp -dsimp (disch:=(repeat first | rw [nxn] | rw [nxp]);try omega) only [go_sem,hg5,lkw,hne2,or3,or4,true_and,implies_true,sv_int,sv_bool,c4,hil,Nat.mul_one,g0,g7,g44,g45,g46,g2']
      refine callK_of (tickC hS hTA (by show Ti.clock<_;omega)) ?_
      rintro r6 g6 ⟨rfl,hT6,n6',o6⟩
      have n6'':g6.nx=g4.nx:=by rw [n6',←hg5];rfl
      have hfi:g6.get (g3.nx+8)=some (.cells [r3,r4,.int .u64 ((Ti.fil x).st:Nat)] true false):=(o6 _ (by omega)).trans (by rw [←hg5];exact AH.get_put_eq rfl)
      have hlt:Ti.files.length<(Ti.files++[(⟨b,b,Ti.clock+1⟩:Fil)]).length:=by simp
      have efs:(Ti.files++[(⟨b,b,(Ti.fil x).st⟩:Fil)]).set Ti.files.length ⟨b,b,Ti.clock+1⟩=Ti.files++[⟨b,b,Ti.clock+1⟩]:=by simp
      have hT7:=hT6.file (i:=Ti.files.length) (K':=K2) (f:=⟨b,b,Ti.clock+1⟩) (h':=g6.put (g3.nx+8) (.cells [r3,r4,.int .u64 ((Ti.clock+1:Nat):Int)] true false)) (by show Ti.files.length<(Ti.files++[_]).length;simp) (fun j hj=>⟨rfl,fun hji=>AH.get_put_ne (fun hh=>hji (hh.trans hr2.symm))⟩) (by
       rw [hr2]
       refine ⟨r3,r4,AH.get_put_eq rfl,hby3.mono (fun j hj=>⟨hj,?_⟩) (by show g5.nx≤g6.nx;omega),hby4.mono (fun j hj=>⟨hj,?_⟩) (by show g5.nx≤g6.nx;omega),hk28⟩
       ·exact (AH.get_put_ne (fun hh=>by rw [hh,hk28] at hj;cases hj)).trans (o6 j (fun hh=>by rw [hh,hTA.kp] at hj;cases hj))
       ·exact (AH.get_put_ne (fun hh=>by rw [hh,hk28] at hj;cases hj)).trans (o6 j (fun hh=>by rw [hh,hTA.kp] at hj;cases hj))) (Nat.le_refl _) (fun j hj=>hT6.top j hj) (by
       have w:=hT6.wf
       refine Wf.set w _ ?_ _
       exact ⟨hbok.1,hbok.2.1,hbok.2.2.1,hbok.2.2.2⟩)
      have e7:({ tickT { Ti with files:=Ti.files++[⟨b,b,(Ti.fil x).st⟩] } with files:=(tickT { Ti with files:=Ti.files++[(⟨b,b,(Ti.fil x).st⟩:Fil)] }).files.set Ti.files.length ⟨b,b,Ti.clock+1⟩ }:TT)={ Ti with clock:=Ti.clock+1,files:=Ti.files++[⟨b,b,Ti.clock+1⟩] }:=by
       show (⟨Ti.room,Ti.now,Ti.safe,Ti.notes,Ti.clock+1,Ti.off,Ti.fuse,(Ti.files++[(⟨b,b,(Ti.fil x).st⟩:Fil)]).set Ti.files.length ⟨b,b,Ti.clock+1⟩⟩:TT)=_
       rw [efs]
      rw [e7] at hT7
      have hp7:=hT7.pp
      obtain ⟨bs',ck',hu⟩:=setN hT7.now s Ti.files.length
      rw [hr2] at hu
      simp (maxSteps:=1000000) -dsimp (disch:=(repeat first | rw [nxn] | rw [nxp]);try omega) only [go_sem,hg5,hfi,hp7,hu,or3,or4,true_and,implies_true,sv_int,sv_bool,c4,hil,Nat.mul_one,g0,g7,g44,g45,g46,g2']
      rw [if_neg (fun hh=>hno2 hh)] at hnext
      have hT8:=hT7.setNow (h':=(g6.put (g3.nx+8) (.cells [r3,r4,.int .u64 ((Ti.clock+1:Nat):Int)] true false)).put h5.nx (.map (enS (mapS (fpt (fun j=>if j=Ti.files.length then g3.nx+8 else ρ' j)) (updS Ti.now s Ti.files.length))) bs' ck')) (hT7.wf.now.upd s hlt hs69) ⟨bs',ck',AH.get_put_eq rfl⟩ rfl (fun j hj=>AH.get_put_ne hj)
      have hfr:∀o o' j,j<g.nx→j≠h5.nx→j≠p→((g6.put (g3.nx+8) o).put h5.nx o').get j=g.get j:=fun o o' j hj hj2 hj3=>(AH.get_put_ne hj2).trans ((AH.get_put_ne (by omega)).trans ((o6 j hj3).trans (hfg5 j hj)))
      have hnx8:g.nx≤g6.nx:=by omega
      refine ⟨ks.length-(i+1),by omega,i+1,v',rfl,rfl,by omega,?_,rfl⟩
      rw [hnext,hd1]
      have hgr8:Gr K' g K2 ((g6.put (g3.nx+8) (.cells [r3,r4,.int .u64 ((Ti.clock+1:Nat):Int)] true false)).put h5.nx (.map (enS (mapS (fpt (fun j=>if j=Ti.files.length then g3.nx+8 else ρ' j)) (updS Ti.now s Ti.files.length))) bs' ck')):=⟨hnx8,fun j hj hk=>⟨hfr _ _ j hj (fun hh=>by rw [hh,hT'.kn] at hk;cases hk) (fun hh=>by rw [hh,hT'.kp] at hk;cases hk),(hK2 j hj).trans hk⟩⟩
      refine ⟨⟨K2,_,hT8,fun y hy=>?_,hgr.trans hgr8,hiv0.gr hgr8,(hK2 _ hwl).trans kw,.inr ⟨kid,rfl,(hgr8.get _ hkl hk0).1.trans hkg,Nat.lt_of_lt_of_le hkl hnx8,(hgr8.get _ hkl hk0).2⟩⟩,⟨wb,wc,(hgr8.get _ hwl kw).1.trans hw⟩,Nat.lt_of_lt_of_le hwl hnx8⟩
      exact (if_neg (by omega)).trans (hρ y hy)
   | cons part rest =>
    rw [hpd] at lv' hiv hnext
    have hcp:(0:Int)<((rest.length+1:Nat):Int):=by omega
    obtain ⟨ia,io,ic,ics,iow,itx,v2,rfl,ig,i0,isl,hiv2⟩:=hiv.tail
    have hicl:io+0<ics.length:=by have:=(List.getElem?_eq_some_iff.1 i0).1;omega
    have e0p:hd0 (part::rest)=part:=rfl
    rw [e0p] at hnext
    unfold crash1 at hnext
    rw [hx] at hnext
    dsimp only at hnext
    simp -dsimp (disch:=(repeat first | rw [nxn] | rw [nxp]);try omega) only [go_sem,c4,hil,hkg,hcs,hp',lks,lv',ov',hcp,Nat.mul_one,g0,g7,g44,g45,g46,g2']
    refine syDraw.go0 (by kernel_rfl) ?_
    have ov2:=hiv2.ln.2.2
    have f7g:Fr g { tr:=g.tr,nx:=g.nx+7 }:=(Fr.refl g).more _ (by omega)
    simp -dsimp (disch:=(repeat first | rw [nxn] | rw [nxp]);try omega) only [go_sem,ig,i0,isl,ov2,Nat.mul_one,g0,g7,g44,g45,g46,g2']
    have hfx1:FilA K' { tr:=g.tr,nx:=g.nx+7 } (ρ' x) (Ti.fil x):=⟨bv,sv',(f7g.get _ hrl).trans q1,q2.mono (fun j hj=>⟨hj,f7g.get _ (hT'.lt (by omega))⟩) f7g.nx,q3.mono (fun j hj=>⟨hj,f7g.get _ (hT'.lt (by omega))⟩) f7g.nx,q4⟩
    refine callK_of (leftFC hS hfx1 (Nat.lt_of_lt_of_le hrl f7g.nx) fo part) ?_
    rintro rb g2 ⟨hb2,f2⟩
    have hbok:=leftF_ok fo part 0
    have ob2:=(bsLn hb2).2.2
    generalize hbe:leftF (Ti.fil x) part=b at hb2 hbok hnext
    refine callK_of (cloneC hS hb2 (by have:=hbok.2.2.1;simp only at this;omega)) ?_
    rintro r3 g3 ⟨hb3,f3'⟩
    have f13:Fr g g3:=(f7g.trans f2).trans f3'
    obtain ⟨lr3,sr3,or3⟩:=bsLn hb3.bs
    have q5:g3.get (ρ' x)=_:=(f13.get _ hrl).trans q1
    have hn13:=f13.nx
    refine syDraw.keep (fun j=>j<g3.nx) (by kernel_rfl) (by kernel_rfl) ?_
    simp -dsimp (disch:=(repeat first | rw [nxn] | rw [nxp]);try omega) only [go_sem,or3,sr3,true_and,implies_true,sv_int,sv_bool,c4,hil,Nat.mul_one,g0,g7,g44,g45,g46,g2']
    have f4a:Fr g3 { tr:=g3.tr,nx:=g3.nx+10 }:=(Fr.refl g3).more _ (by omega)
    refine callK_of (cloneC hS (hb3.bs.fr f4a) (by have:=hbok.2.2.1;simp only at this;omega)) ?_
    rintro r4 g4 ⟨hb4,f4⟩
    obtain ⟨lr4,sr4,or4⟩:=bsLn hb4.bs
    have f34:=f4a.trans f4
    have hn4:g3.nx+10≤g4.nx:=f4.nx
    refine ⟨fun id hid=>f34.get id hid,?_⟩
    have q6:g4.get (ρ' x)=_:=(f34.get _ (Nat.lt_of_lt_of_le hrl hn13)).trans q5
    have hrl3:ρ' x<g3.nx:=Nat.lt_of_lt_of_le hrl hn13
    have bG:=bldG (n:=((Ti.fil x).st:Nat)) hb3.shape hb4.shape
    simp -dsimp (disch:=(repeat first | rw [nxn] | rw [nxp]);try omega) only [go_sem,or3,or4,sr3,sr4,q6,hrl3,bG,true_and,implies_true,sv_int,sv_bool,c4,hil,Nat.mul_one,g0,g7,g44,g45,g46,g2']
    generalize hg5:g4.put (g3.nx+8) (.cells [r3,r4,.int .u64 ((Ti.fil x).st:Nat)] true false)=g5
    generalize hK2e:(fun j=>if j=g3.nx+8 then 4 else if (g2.nx≤j∧j<g3.nx)∨(g3.nx+10≤j∧j<g4.nx) then 5 else K' j)=K2
    have n5x:g5.nx=g4.nx:=by rw [←hg5];rfl
    have hn12:g.nx≤g2.nx:=by have h1:=(f7g).nx;have h2':=f2.nx;omega
    have hn23:g2.nx≤g3.nx:=f3'.nx
    have hk28:K2 (g3.nx+8)=4:=by rw [←hK2e];exact if_pos rfl
    have hK2:∀j,j<g.nx→K2 j=K' j:=fun j hj=>by
     rw [←hK2e]
     exact (if_neg (by omega)).trans (if_neg (by omega))
    have hK3:∀j,g2.nx≤j→j<g3.nx→K2 j=5:=fun j h1 h2=>by
     rw [←hK2e]
     exact (if_neg (by omega)).trans (if_pos (.inl ⟨h1,h2⟩))
    have hK4:∀j,g3.nx+10≤j→j<g4.nx→K2 j=5:=fun j h1 h2=>by
     rw [←hK2e]
     exact (if_neg (by omega)).trans (if_pos (.inr ⟨h1,h2⟩))
    have hfg5:∀j,j<g.nx→g5.get j=g.get j:=fun j hj=>by
     rw [←hg5]
     exact (AH.get_put_ne (by omega)).trans ((f34.get j (by omega)).trans (f13.get j hj))
    have h35:∀j,j<g3.nx→g5.get j=g3.get j:=fun j hj=>by
     rw [←hg5]
     exact (AH.get_put_ne (by omega)).trans (f34.get j hj)
    have hby3:By K2 g5 r3 b:=by
     rcases hb3 with h1 | ⟨id,c,cs,tx,h1,h2',h3',h4,h5⟩
     ·exact .inl h1
     ·exact .inr ⟨id,c,cs,tx,h1,(h35 id h3').trans h2',by omega,hK3 id h4 h3',h5⟩
    have hby4:By K2 g5 r4 b:=by
     rcases hb4 with h1 | ⟨id,c,cs,tx,h1,h2',h3',h4,h5⟩
     ·exact .inl h1
     ·have h4':g3.nx+10≤id:=h4
      exact .inr ⟨id,c,cs,tx,h1,by rw [←hg5];exact (AH.get_put_ne (by omega)).trans h2',by omega,hK4 id h4' h3',h5⟩
    have hTA:=hT'.addF (K':=K2) (id:=g3.nx+8) (f:=⟨b,b,(Ti.fil x).st⟩) (h':=g5) (fun j hj=>⟨hK2 j (hT'.lt hj),hfg5 j (hT'.lt hj)⟩) (hT'.top _ (by omega)) ⟨r3,r4,by rw [←hg5];exact AH.get_put_eq rfl,hby3,hby4,hk28⟩ (by omega) (fun j hj=>by
     rw [←hK2e]
     exact (if_neg (by omega)).trans ((if_neg (by omega)).trans (hT'.top j (by omega)))) (Wf.grow hT'.wf ⟨b,b,(Ti.fil x).st⟩ hbok Ti.clock)
    have hr2:(if Ti.files.length=Ti.files.length then g3.nx+8 else ρ' Ti.files.length)=g3.nx+8:=if_pos rfl
    have hpA:=hTA.pp
    have hs69:s.length≤69:=(hT'.wf.safe.2 s x hx).2
    have hpl2:∀y,y<Ti.files.length→plainBlock g5 (ρ' y)=true:=fun y hy=>by
     have:=plain_fil (hTA.fl y (by simp;omega))
     rw [if_neg (show ¬y=Ti.files.length by omega)] at this
     exact this
    have lkw:=lookN (h:=g5) (m:=h2.nx) (ρ:=ρ) (E:=T.now) ⟨wb,wc,(hfg5 _ hwl).trans hw⟩ s
    have hd1:ps.drop (i+1)=rest:=by rw [←List.drop_drop (i:=1),hpd];rfl
    cases hvn:valS T.now s with
    | none =>
     rw [hvn] at lkw
     have hno2:¬(valS T.now s=some x∧b=(Ti.fil x).b):=fun hh=>by rw [hvn] at hh;cases hh.1
     simp (maxSteps:=1000000) -dsimp (disch:=(repeat first | rw [nxn] | rw [nxp]);try omega) only [go_sem,hg5,lkw,neNP,or3,or4,true_and,implies_true,sv_int,sv_bool,c4,hil,Nat.mul_one,g0,g7,g44,g45,g46,g2']
     refine callK_of (tickC hS hTA (by show Ti.clock<_;omega)) ?_
     rintro r6 g6 ⟨rfl,hT6,n6',o6⟩
     have n6'':g6.nx=g4.nx:=by rw [n6',←hg5];rfl
     have hfi:g6.get (g3.nx+8)=some (.cells [r3,r4,.int .u64 ((Ti.fil x).st:Nat)] true false):=(o6 _ (by omega)).trans (by rw [←hg5];exact AH.get_put_eq rfl)
     have hlt:Ti.files.length<(Ti.files++[(⟨b,b,Ti.clock+1⟩:Fil)]).length:=by simp
     have efs:(Ti.files++[(⟨b,b,(Ti.fil x).st⟩:Fil)]).set Ti.files.length ⟨b,b,Ti.clock+1⟩=Ti.files++[⟨b,b,Ti.clock+1⟩]:=by simp
     have hT7:=hT6.file (i:=Ti.files.length) (K':=K2) (f:=⟨b,b,Ti.clock+1⟩) (h':=g6.put (g3.nx+8) (.cells [r3,r4,.int .u64 ((Ti.clock+1:Nat):Int)] true false)) (by show Ti.files.length<(Ti.files++[_]).length;simp) (fun j hj=>⟨rfl,fun hji=>AH.get_put_ne (fun hh=>hji (hh.trans hr2.symm))⟩) (by
      rw [hr2]
      refine ⟨r3,r4,AH.get_put_eq rfl,hby3.mono (fun j hj=>⟨hj,?_⟩) (by show g5.nx≤g6.nx;omega),hby4.mono (fun j hj=>⟨hj,?_⟩) (by show g5.nx≤g6.nx;omega),hk28⟩
      ·exact (AH.get_put_ne (fun hh=>by rw [hh,hk28] at hj;cases hj)).trans (o6 j (fun hh=>by rw [hh,hTA.kp] at hj;cases hj))
      ·exact (AH.get_put_ne (fun hh=>by rw [hh,hk28] at hj;cases hj)).trans (o6 j (fun hh=>by rw [hh,hTA.kp] at hj;cases hj))) (Nat.le_refl _) (fun j hj=>hT6.top j hj) (by
      have w:=hT6.wf
      refine Wf.set w _ ?_ _
      exact ⟨hbok.1,hbok.2.1,hbok.2.2.1,hbok.2.2.2⟩)
     have e7:({ tickT { Ti with files:=Ti.files++[⟨b,b,(Ti.fil x).st⟩] } with files:=(tickT { Ti with files:=Ti.files++[(⟨b,b,(Ti.fil x).st⟩:Fil)] }).files.set Ti.files.length ⟨b,b,Ti.clock+1⟩ }:TT)={ Ti with clock:=Ti.clock+1,files:=Ti.files++[⟨b,b,Ti.clock+1⟩] }:=by
      show (⟨Ti.room,Ti.now,Ti.safe,Ti.notes,Ti.clock+1,Ti.off,Ti.fuse,(Ti.files++[(⟨b,b,(Ti.fil x).st⟩:Fil)]).set Ti.files.length ⟨b,b,Ti.clock+1⟩⟩:TT)=_
      rw [efs]
     rw [e7] at hT7
     have hp7:=hT7.pp
     obtain ⟨bs',ck',hu⟩:=setN hT7.now s Ti.files.length
     rw [hr2] at hu
     simp (maxSteps:=1000000) -dsimp (disch:=(repeat first | rw [nxn] | rw [nxp]);try omega) only [go_sem,hg5,hfi,hp7,hu,or3,or4,true_and,implies_true,sv_int,sv_bool,c4,hil,Nat.mul_one,g0,g7,g44,g45,g46,g2']
     rw [if_neg (fun hh=>hno2 hh)] at hnext
     have hT8:=hT7.setNow (h':=(g6.put (g3.nx+8) (.cells [r3,r4,.int .u64 ((Ti.clock+1:Nat):Int)] true false)).put h5.nx (.map (enS (mapS (fpt (fun j=>if j=Ti.files.length then g3.nx+8 else ρ' j)) (updS Ti.now s Ti.files.length))) bs' ck')) (hT7.wf.now.upd s hlt hs69) ⟨bs',ck',AH.get_put_eq rfl⟩ rfl (fun j hj=>AH.get_put_ne hj)
     have hfr:∀o o' j,j<g.nx→j≠h5.nx→j≠p→((g6.put (g3.nx+8) o).put h5.nx o').get j=g.get j:=fun o o' j hj hj2 hj3=>(AH.get_put_ne hj2).trans ((AH.get_put_ne (by omega)).trans ((o6 j hj3).trans (hfg5 j hj)))
     have hnx8:g.nx≤g6.nx:=by omega
     refine ⟨ks.length-(i+1),by omega,i+1,v2,rfl,rfl,by omega,?_,rfl⟩
     rw [hnext,hd1]
     have hgr8:Gr K' g K2 ((g6.put (g3.nx+8) (.cells [r3,r4,.int .u64 ((Ti.clock+1:Nat):Int)] true false)).put h5.nx (.map (enS (mapS (fpt (fun j=>if j=Ti.files.length then g3.nx+8 else ρ' j)) (updS Ti.now s Ti.files.length))) bs' ck')):=⟨hnx8,fun j hj hk=>⟨hfr _ _ j hj (fun hh=>by rw [hh,hT'.kn] at hk;cases hk) (fun hh=>by rw [hh,hT'.kp] at hk;cases hk),(hK2 j hj).trans hk⟩⟩
     refine ⟨⟨K2,_,hT8,fun y hy=>?_,hgr.trans hgr8,hiv2.gr hgr8,(hK2 _ hwl).trans kw,.inr ⟨kid,rfl,(hgr8.get _ hkl hk0).1.trans hkg,Nat.lt_of_lt_of_le hkl hnx8,(hgr8.get _ hkl hk0).2⟩⟩,⟨wb,wc,(hgr8.get _ hwl kw).1.trans hw⟩,Nat.lt_of_lt_of_le hwl hnx8⟩
     exact (if_neg (by omega)).trans (hρ y hy)
    | some y =>
     rw [hvn] at lkw
     have hyl:y<T.files.length:=(hT.wf.now.2 s y hvn).1
     have ey:ρ y=ρ' y:=(hρ y hyl).symm
     dsimp only at lkw
     rw [ey] at lkw
     have hne:=nePP (hpl2 y (by omega)) (hpl2 x hxi)
     by_cases hyx:y=x
     ·have hne2:binA Tryz.prog g5 .neq 93 (.ptr (ρ' y) 0) (.ptr (ρ' x) 0)=some (.bool false):=by rw [hne,hyx];simp
      have q7:g5.get (ρ' x)=_:=(hfg5 _ hrl).trans q1
      simp (maxSteps:=1000000) -dsimp (disch:=(repeat first | rw [nxn] | rw [nxp]);try omega) only [go_sem,hg5,lkw,hne2,q7,or3,or4,true_and,implies_true,sv_int,sv_bool,c4,hil,Nat.mul_one,g0,g7,g44,g45,g46,g2']
      have hbv5:Bs g5 bv (Ti.fil x).b:=(q2.mono (K':=K') (h':=g5) (fun j hj=>⟨hj,hfg5 j (hT'.lt (by omega))⟩) (by omega)).bs
      refine callK_of (equalC hS hby3.bs hbv5 hbok.1 fo.1) ?_
      rintro rq gq ⟨rfl,hgq⟩
      have hgq':=hgq.symm
      subst hgq'
      by_cases hbb:b=(Ti.fil x).b
      ·have dbb:decide (b=(Ti.fil x).b)=true:=by simpa using hbb
       simp -dsimp (disch:=(repeat first | rw [nxn] | rw [nxp]);try omega) only [go_sem,hg5,dbb,c4,hil,Nat.mul_one,g0,g7,g44,g45,g46,g2']
       have hlt:Ti.files.length<(Ti.files++[(⟨b,b,(Ti.fil x).st⟩:Fil)]).length:=by simp
       obtain ⟨bs',ck',hu⟩:=setN hTA.now s Ti.files.length
       rw [hr2] at hu
       simp (maxSteps:=1000000) -dsimp (disch:=(repeat first | rw [nxn] | rw [nxp]);try omega) only [go_sem,hg5,hpA,hu,or3,or4,true_and,implies_true,sv_int,sv_bool,c4,hil,Nat.mul_one,g0,g7,g44,g45,g46,g2']
       rw [if_pos ⟨by rw [hvn,hyx],hbb⟩] at hnext
       have hT8:=hTA.setNow (h':=g5.put h5.nx (.map (enS (mapS (fpt (fun j=>if j=Ti.files.length then g3.nx+8 else ρ' j)) (updS Ti.now s Ti.files.length))) bs' ck')) (hTA.wf.now.upd s hlt hs69) ⟨bs',ck',AH.get_put_eq rfl⟩ rfl (fun j hj=>AH.get_put_ne hj)
       have hfr:∀o j,j<g.nx→j≠h5.nx→j≠p→(g5.put h5.nx o).get j=g.get j:=fun o j hj hj2 hj3=>(AH.get_put_ne hj2).trans (hfg5 j hj)
       have hnx8:g.nx≤g5.nx:=by omega
       refine ⟨ks.length-(i+1),by omega,i+1,v2,rfl,rfl,by omega,?_,rfl⟩
       rw [hnext,hd1]
       have hgr8:Gr K' g K2 (g5.put h5.nx (.map (enS (mapS (fpt (fun j=>if j=Ti.files.length then g3.nx+8 else ρ' j)) (updS Ti.now s Ti.files.length))) bs' ck')):=⟨hnx8,fun j hj hk=>⟨hfr _ j hj (fun hh=>by rw [hh,hT'.kn] at hk;cases hk) (fun hh=>by rw [hh,hT'.kp] at hk;cases hk),(hK2 j hj).trans hk⟩⟩
       refine ⟨⟨K2,_,hT8,fun y hy=>?_,hgr.trans hgr8,hiv2.gr hgr8,(hK2 _ hwl).trans kw,.inr ⟨kid,rfl,(hgr8.get _ hkl hk0).1.trans hkg,Nat.lt_of_lt_of_le hkl hnx8,(hgr8.get _ hkl hk0).2⟩⟩,⟨wb,wc,(hgr8.get _ hwl kw).1.trans hw⟩,Nat.lt_of_lt_of_le hwl hnx8⟩
       exact (if_neg (by omega)).trans (hρ y hy)
      ·have dbb:decide (b=(Ti.fil x).b)=false:=by simpa using hbb
       have hno2:¬(valS T.now s=some x∧b=(Ti.fil x).b):=fun hh=>hbb hh.2
       simp -dsimp (disch:=(repeat first | rw [nxn] | rw [nxp]);try omega) only [go_sem,hg5,dbb,c4,hil,Nat.mul_one,g0,g7,g44,g45,g46,g2']
       refine callK_of (tickC hS hTA (by show Ti.clock<_;omega)) ?_
       rintro r6 g6 ⟨rfl,hT6,n6',o6⟩
       have n6'':g6.nx=g4.nx:=by rw [n6',←hg5];rfl
       have hfi:g6.get (g3.nx+8)=some (.cells [r3,r4,.int .u64 ((Ti.fil x).st:Nat)] true false):=(o6 _ (by omega)).trans (by rw [←hg5];exact AH.get_put_eq rfl)
       have hlt:Ti.files.length<(Ti.files++[(⟨b,b,Ti.clock+1⟩:Fil)]).length:=by simp
       have efs:(Ti.files++[(⟨b,b,(Ti.fil x).st⟩:Fil)]).set Ti.files.length ⟨b,b,Ti.clock+1⟩=Ti.files++[⟨b,b,Ti.clock+1⟩]:=by simp
       have hT7:=hT6.file (i:=Ti.files.length) (K':=K2) (f:=⟨b,b,Ti.clock+1⟩) (h':=g6.put (g3.nx+8) (.cells [r3,r4,.int .u64 ((Ti.clock+1:Nat):Int)] true false)) (by show Ti.files.length<(Ti.files++[_]).length;simp) (fun j hj=>⟨rfl,fun hji=>AH.get_put_ne (fun hh=>hji (hh.trans hr2.symm))⟩) (by
        rw [hr2]
        refine ⟨r3,r4,AH.get_put_eq rfl,hby3.mono (fun j hj=>⟨hj,?_⟩) (by show g5.nx≤g6.nx;omega),hby4.mono (fun j hj=>⟨hj,?_⟩) (by show g5.nx≤g6.nx;omega),hk28⟩
        ·exact (AH.get_put_ne (fun hh=>by rw [hh,hk28] at hj;cases hj)).trans (o6 j (fun hh=>by rw [hh,hTA.kp] at hj;cases hj))
        ·exact (AH.get_put_ne (fun hh=>by rw [hh,hk28] at hj;cases hj)).trans (o6 j (fun hh=>by rw [hh,hTA.kp] at hj;cases hj))) (Nat.le_refl _) (fun j hj=>hT6.top j hj) (by
        have w:=hT6.wf
        refine Wf.set w _ ?_ _
        exact ⟨hbok.1,hbok.2.1,hbok.2.2.1,hbok.2.2.2⟩)
       have e7:({ tickT { Ti with files:=Ti.files++[⟨b,b,(Ti.fil x).st⟩] } with files:=(tickT { Ti with files:=Ti.files++[(⟨b,b,(Ti.fil x).st⟩:Fil)] }).files.set Ti.files.length ⟨b,b,Ti.clock+1⟩ }:TT)={ Ti with clock:=Ti.clock+1,files:=Ti.files++[⟨b,b,Ti.clock+1⟩] }:=by
        show (⟨Ti.room,Ti.now,Ti.safe,Ti.notes,Ti.clock+1,Ti.off,Ti.fuse,(Ti.files++[(⟨b,b,(Ti.fil x).st⟩:Fil)]).set Ti.files.length ⟨b,b,Ti.clock+1⟩⟩:TT)=_
        rw [efs]
       rw [e7] at hT7
       have hp7:=hT7.pp
       obtain ⟨bs',ck',hu⟩:=setN hT7.now s Ti.files.length
       rw [hr2] at hu
       simp (maxSteps:=1000000) -dsimp (disch:=(repeat first | rw [nxn] | rw [nxp]);try omega) only [go_sem,hg5,hfi,hp7,hu,or3,or4,true_and,implies_true,sv_int,sv_bool,c4,hil,Nat.mul_one,g0,g7,g44,g45,g46,g2']
       rw [if_neg (fun hh=>hno2 hh)] at hnext
       have hT8:=hT7.setNow (h':=(g6.put (g3.nx+8) (.cells [r3,r4,.int .u64 ((Ti.clock+1:Nat):Int)] true false)).put h5.nx (.map (enS (mapS (fpt (fun j=>if j=Ti.files.length then g3.nx+8 else ρ' j)) (updS Ti.now s Ti.files.length))) bs' ck')) (hT7.wf.now.upd s hlt hs69) ⟨bs',ck',AH.get_put_eq rfl⟩ rfl (fun j hj=>AH.get_put_ne hj)
       have hfr:∀o o' j,j<g.nx→j≠h5.nx→j≠p→((g6.put (g3.nx+8) o).put h5.nx o').get j=g.get j:=fun o o' j hj hj2 hj3=>(AH.get_put_ne hj2).trans ((AH.get_put_ne (by omega)).trans ((o6 j hj3).trans (hfg5 j hj)))
       have hnx8:g.nx≤g6.nx:=by omega
       refine ⟨ks.length-(i+1),by omega,i+1,v2,rfl,rfl,by omega,?_,rfl⟩
       rw [hnext,hd1]
       have hgr8:Gr K' g K2 ((g6.put (g3.nx+8) (.cells [r3,r4,.int .u64 ((Ti.clock+1:Nat):Int)] true false)).put h5.nx (.map (enS (mapS (fpt (fun j=>if j=Ti.files.length then g3.nx+8 else ρ' j)) (updS Ti.now s Ti.files.length))) bs' ck')):=⟨hnx8,fun j hj hk=>⟨hfr _ _ j hj (fun hh=>by rw [hh,hT'.kn] at hk;cases hk) (fun hh=>by rw [hh,hT'.kp] at hk;cases hk),(hK2 j hj).trans hk⟩⟩
       refine ⟨⟨K2,_,hT8,fun y hy=>?_,hgr.trans hgr8,hiv2.gr hgr8,(hK2 _ hwl).trans kw,.inr ⟨kid,rfl,(hgr8.get _ hkl hk0).1.trans hkg,Nat.lt_of_lt_of_le hkl hnx8,(hgr8.get _ hkl hk0).2⟩⟩,⟨wb,wc,(hgr8.get _ hwl kw).1.trans hw⟩,Nat.lt_of_lt_of_le hwl hnx8⟩
       exact (if_neg (by omega)).trans (hρ y hy)
     ·have hne2:binA Tryz.prog g5 .neq 93 (.ptr (ρ' y) 0) (.ptr (ρ' x) 0)=some (.bool true):=by
       rw [hne]
       have:¬ρ' y=ρ' x:=fun hh=>hyx (hT'.inj y x (by omega) hxi hh)
       simp [this]
      have hno2:¬(valS T.now s=some x∧b=(Ti.fil x).b):=fun hh=>by rw [hvn] at hh;exact hyx (Option.some.inj hh.1)
      simp (maxSteps:=1000000) -dsimp (disch:=(repeat first | rw [nxn] | rw [nxp]);try omega) only [go_sem,hg5,lkw,hne2,or3,or4,true_and,implies_true,sv_int,sv_bool,c4,hil,Nat.mul_one,g0,g7,g44,g45,g46,g2']
      refine callK_of (tickC hS hTA (by show Ti.clock<_;omega)) ?_
      rintro r6 g6 ⟨rfl,hT6,n6',o6⟩
      have n6'':g6.nx=g4.nx:=by rw [n6',←hg5];rfl
      have hfi:g6.get (g3.nx+8)=some (.cells [r3,r4,.int .u64 ((Ti.fil x).st:Nat)] true false):=(o6 _ (by omega)).trans (by rw [←hg5];exact AH.get_put_eq rfl)
      have hlt:Ti.files.length<(Ti.files++[(⟨b,b,Ti.clock+1⟩:Fil)]).length:=by simp
      have efs:(Ti.files++[(⟨b,b,(Ti.fil x).st⟩:Fil)]).set Ti.files.length ⟨b,b,Ti.clock+1⟩=Ti.files++[⟨b,b,Ti.clock+1⟩]:=by simp
      have hT7:=hT6.file (i:=Ti.files.length) (K':=K2) (f:=⟨b,b,Ti.clock+1⟩) (h':=g6.put (g3.nx+8) (.cells [r3,r4,.int .u64 ((Ti.clock+1:Nat):Int)] true false)) (by show Ti.files.length<(Ti.files++[_]).length;simp) (fun j hj=>⟨rfl,fun hji=>AH.get_put_ne (fun hh=>hji (hh.trans hr2.symm))⟩) (by
       rw [hr2]
       refine ⟨r3,r4,AH.get_put_eq rfl,hby3.mono (fun j hj=>⟨hj,?_⟩) (by show g5.nx≤g6.nx;omega),hby4.mono (fun j hj=>⟨hj,?_⟩) (by show g5.nx≤g6.nx;omega),hk28⟩
       ·exact (AH.get_put_ne (fun hh=>by rw [hh,hk28] at hj;cases hj)).trans (o6 j (fun hh=>by rw [hh,hTA.kp] at hj;cases hj))
       ·exact (AH.get_put_ne (fun hh=>by rw [hh,hk28] at hj;cases hj)).trans (o6 j (fun hh=>by rw [hh,hTA.kp] at hj;cases hj))) (Nat.le_refl _) (fun j hj=>hT6.top j hj) (by
       have w:=hT6.wf
       refine Wf.set w _ ?_ _
       exact ⟨hbok.1,hbok.2.1,hbok.2.2.1,hbok.2.2.2⟩)
      have e7:({ tickT { Ti with files:=Ti.files++[⟨b,b,(Ti.fil x).st⟩] } with files:=(tickT { Ti with files:=Ti.files++[(⟨b,b,(Ti.fil x).st⟩:Fil)] }).files.set Ti.files.length ⟨b,b,Ti.clock+1⟩ }:TT)={ Ti with clock:=Ti.clock+1,files:=Ti.files++[⟨b,b,Ti.clock+1⟩] }:=by
       show (⟨Ti.room,Ti.now,Ti.safe,Ti.notes,Ti.clock+1,Ti.off,Ti.fuse,(Ti.files++[(⟨b,b,(Ti.fil x).st⟩:Fil)]).set Ti.files.length ⟨b,b,Ti.clock+1⟩⟩:TT)=_
       rw [efs]
      rw [e7] at hT7
      have hp7:=hT7.pp
      obtain ⟨bs',ck',hu⟩:=setN hT7.now s Ti.files.length
      rw [hr2] at hu
      simp (maxSteps:=1000000) -dsimp (disch:=(repeat first | rw [nxn] | rw [nxp]);try omega) only [go_sem,hg5,hfi,hp7,hu,or3,or4,true_and,implies_true,sv_int,sv_bool,c4,hil,Nat.mul_one,g0,g7,g44,g45,g46,g2']
      rw [if_neg (fun hh=>hno2 hh)] at hnext
      have hT8:=hT7.setNow (h':=(g6.put (g3.nx+8) (.cells [r3,r4,.int .u64 ((Ti.clock+1:Nat):Int)] true false)).put h5.nx (.map (enS (mapS (fpt (fun j=>if j=Ti.files.length then g3.nx+8 else ρ' j)) (updS Ti.now s Ti.files.length))) bs' ck')) (hT7.wf.now.upd s hlt hs69) ⟨bs',ck',AH.get_put_eq rfl⟩ rfl (fun j hj=>AH.get_put_ne hj)
      have hfr:∀o o' j,j<g.nx→j≠h5.nx→j≠p→((g6.put (g3.nx+8) o).put h5.nx o').get j=g.get j:=fun o o' j hj hj2 hj3=>(AH.get_put_ne hj2).trans ((AH.get_put_ne (by omega)).trans ((o6 j hj3).trans (hfg5 j hj)))
      have hnx8:g.nx≤g6.nx:=by omega
      refine ⟨ks.length-(i+1),by omega,i+1,v2,rfl,rfl,by omega,?_,rfl⟩
      rw [hnext,hd1]
      have hgr8:Gr K' g K2 ((g6.put (g3.nx+8) (.cells [r3,r4,.int .u64 ((Ti.clock+1:Nat):Int)] true false)).put h5.nx (.map (enS (mapS (fpt (fun j=>if j=Ti.files.length then g3.nx+8 else ρ' j)) (updS Ti.now s Ti.files.length))) bs' ck')):=⟨hnx8,fun j hj hk=>⟨hfr _ _ j hj (fun hh=>by rw [hh,hT'.kn] at hk;cases hk) (fun hh=>by rw [hh,hT'.kp] at hk;cases hk),(hK2 j hj).trans hk⟩⟩
      refine ⟨⟨K2,_,hT8,fun y hy=>?_,hgr.trans hgr8,hiv2.gr hgr8,(hK2 _ hwl).trans kw,.inr ⟨kid,rfl,(hgr8.get _ hkl hk0).1.trans hkg,Nat.lt_of_lt_of_le hkl hnx8,(hgr8.get _ hkl hk0).2⟩⟩,⟨wb,wc,(hgr8.get _ hwl kw).1.trans hw⟩,Nat.lt_of_lt_of_le hwl hnx8⟩
      exact (if_neg (by omega)).trans (hρ y hy)
  ·have:i=ks.length:=by omega
   subst this
   rw [List.take_length] at hcr
   simp -dsimp (disch:=(repeat first | rw [nxn] | rw [nxp]);try omega) only [go_sem,c4,g0,g7,g44,g45,g46,g2]
   exact ⟨trivial,trivial,trivial,v',hcr⟩
 ·simp -dsimp (disch:=(repeat first | rw [nxn] | rw [nxp]);try omega) only [go_sem]
  exact ⟨trivial,trivial,trivial,trivial,trivial,0,v,rfl,rfl,Nat.zero_le _,hcr0,rfl⟩
 ·rintro ex ⟨t,g,d⟩ ⟨rfl,rfl,g0,v',hcr⟩
  dsimp only at g0 hcr
  generalize crashL T.now T1 ks ps=T2 at hcr
  obtain ⟨⟨K',ρ',hT',hρ,hgr,hiv,kw,hkk⟩,⟨wb,wc,hw⟩,hwl⟩:=hcr
  have hp':=hT'.pp
  obtain ⟨nb,nc,hnow'⟩:=hT'.now
  have hpl':p<g.nx:=hT'.lt (by rw [hT'.kp];decide)
  simp -dsimp (disch:=(repeat first | rw [nxn] | rw [nxp]);try omega) only [go_sem,g0,hp']
  refine callK_of (cloneMC hS hnow') ?_
  rintro r2 g2 ⟨rfl,rfl⟩
  simp -dsimp (disch:=(repeat first | rw [nxn] | rw [nxp]);try omega) only [go_sem,g0,hp']
  refine ⟨trivial,fun j=>if j=g.nx then 3 else K' j,h5.nx,g.nx,.nilsl,ρ',hT'.newSafe (b:=nb) (c:=nc) (hT'.top _ (Nat.le_refl _)) (AH.get_put_eq rfl) ?_ (Nat.lt_succ_self _) (Nat.le_succ _) (fun j hj hjp=>?_),hgr.trans ⟨Nat.le_succ _,fun j hj hk=>⟨?_,?_⟩⟩⟩
  ·exact (AH.get_put_ne (by omega)).trans ((AH.get_put_ne (by omega)).trans ((AH.get_put_ne (by omega)).trans ((AH.get_new_eq rfl).trans rfl)))
  ·have:=hT'.lt hj
   exact (AH.get_put_ne hjp).trans ((AH.get_put_ne hjp).trans ((AH.get_put_ne hjp).trans (AH.get_new_ne (by omega))))
  ·have hjp:j≠p:=fun hh=>by rw [hh,hT'.kp] at hk;cases hk
   exact (AH.get_put_ne hjp).trans ((AH.get_put_ne hjp).trans ((AH.get_put_ne hjp).trans (AH.get_new_ne (by omega))))
  ·exact (if_neg (by omega)).trans hk
end
def Bz (K:Nat→Nat) (h:AH) (v:AV) (l:List Nat):Prop:=Bs h v l∧∀id off n z c,v=.sl id off n z c→K id=0
theorem Bz.gr {K K':Nat→Nat} {h h':AH} {v:AV} {l:List Nat} (hb:Bz K h v l) (g:Gr K h K' h'):Bz K' h' v l:=by
 obtain ⟨hb,hk⟩:=hb
 rcases hb with h1 | ⟨id,off,c,cs,o,t,h1,h2,h3,h4⟩
 ·exact ⟨.inl h1,fun id off n z c hh=>by rw [h1.1] at hh;cases hh⟩
 ·have hk0:=hk _ _ _ _ _ h1
  refine ⟨.inr ⟨id,off,c,cs,o,t,h1,(g.get id h3 hk0).1.trans h2,Nat.lt_of_lt_of_le h3 g.nx,h4⟩,fun id' off' n z c' hh=>?_⟩
  rw [h1] at hh
  cases hh
  exact (g.get _ h3 hk0).2
theorem Bn.bp {p:Nat} {h h':AH} {v:AV} {l:List Nat} (hb:Bn h.nx h' v l) (hp:p<h.nx):Bp p h' v l:=by
 refine ⟨hb.bs,fun id off n z c hh=>?_⟩
 rcases hb with h1 | ⟨id',c',cs,tx,h1,h2,h3,h4,h5⟩
 ·rw [h1.1] at hh;cases hh
 ·rw [h1] at hh
  cases hh
  omega
theorem ai3:appI Tryz.prog 3=some (1,8):=by kernel_rfl
theorem ints_all (l:List Int):(l.map (AV.int .i64)).all oneA=true:=by
 rw [List.all_eq_true]
 intro c hc
 obtain ⟨b,_,rfl⟩:=List.mem_map.1 hc
 rfl
theorem Iv.own {K:Nat→Nat} {h:AH} {v:AV} {l:List Int} (hb:Iv K h v l) (hl:l.length≤1048576) (top:∀j,h.nx≤j→K j=0) :
  ∃v' h',evAppend Tryz.prog (h.new (.cells [] true true)) #[44,44] (.sl h.nx 0 0 1 (some 0)) v=some (.val v' h')∧Fr h h'∧Iv K h' v' l∧oneA v'=true:=by
 have hold:firstA (h.new (.cells [] true true)) 1 0 (.sl h.nx 0 0 1 (some 0))=some []:=by
  rw [firstA_sl (AH.get_new_eq rfl) (Nat.le_refl _) (by simp)];simp
 have hnew:lenA v=some l.length∧firstA (h.new (.cells [] true true)) 1 l.length v=some (l.map (.int .i64)):=by
  rcases hb with ⟨rfl,rfl⟩ | ⟨id,off,c,cs,o,t,rfl,h2,h3,h4,h5,h6,h7⟩
  ·exact ⟨rfl,rfl⟩
  ·refine ⟨rfl,?_⟩
   rw [firstA_sl ((AH.get_new_ne (by omega)).trans h2) (Nat.le_refl _) (by omega),Nat.mul_one,h7]
 rw [evAppend_eq Tryz.underlying44 Tryz.underlying44 rfl ai3 hnew.1 hnew.2 rfl hold (ints_all l) (by omega) (by omega) rfl]
 by_cases h0:l.length=0
 ·have:l=[]:=List.length_eq_zero_iff.1 h0
  subst this
  rw [if_pos h0]
  exact ⟨_,_,rfl,Fr.new _ _,.inr ⟨h.nx,0,some 0,[],true,true,rfl,AH.get_new_eq rfl,Nat.lt_succ_self _,top _ (Nat.le_refl _),fun k hk=>by cases hk;exact Nat.le_refl _,Nat.le_refl _,rfl⟩,rfl⟩
 ·rw [if_neg h0]
  simp only
  rw [if_pos (by omega)]
  refine ⟨_,_,rfl,(Fr.new _ _).news _,.inr ⟨h.nx+1,0,none,[]++l.map (.int .i64),true,false,by simp,AH.get_new_eq rfl,Nat.lt_succ_self _,top _ (by omega),(fun k hk=>by cases hk),by simp,?_⟩,rfl⟩
  rw [List.drop_zero,List.nil_append]
  have:(l.map (AV.int .i64)).take (l.map (AV.int .i64)).length=l.map (AV.int .i64):=List.take_length
  rwa [List.length_map] at this
section
variable {S : Sums}
theorem crashE (hS:St S) {K p nm sm chv ρ h T} (hT:Tr K p nm sm chv ρ h T) (hm:Sm T) (hc:T.clock<1152921504606000000) (keep:Int) {v:AV} {ps:List Int} (hv:Iv K h v ps) (hks:(keepT T ((max 0 keep).toNat%(T.notes.length+1))).safe.length≤16384) {T':TT} (e:crashT T keep ps=T') :
  RnC Tryz.prog S 21 [.ptr p 0,.int .i64 keep,v] h fun r h'=>r=.int .i64 0∧Res K p h h' T':=by
 have:=crashC hS hT hm hc keep hv hks;rw [e] at this;exact this
theorem Iv.of {K K':Nat→Nat} {h h':AH} {v:AV} {l:List Int} (hb:Iv K h v l) (f:Fr h h') (hk:∀j,j<h.nx→K' j=0):Iv K' h' v l:=by
 rcases hb with h1 | ⟨id',off',c',cs,o,t,h1,h2,h3,h4,h5⟩
 ·exact .inl h1
 ·exact .inr ⟨id',off',c',cs,o,t,h1,(f.get _ h3).trans h2,Nat.lt_of_lt_of_le h3 f.nx,hk _ h3,h5⟩
end
open Go.ChangeShapes Go.RowKit
section
variable {H : Type} {enc : TypeId × Value → H} {P : Program} {w : World} {base : Nat} {spare : Nat → Bool} {held : Bool}
theorem trodAll_five {t0 t1 t2 t3 t4:TypeId} {args:Array Value} {ds:List (DataW H)} {ps:List MemPlace} (h:DataW.TrodAll enc P w base spare held [t0,t1,t2,t3,t4] args.toList ds ps) :
  ∃v0 v1 v2 v3 v4 d0 d1 d2 d3 d4 p0 p1 p2 p3 p4,args=#[v0,v1,v2,v3,v4]∧ds=[d0,d1,d2,d3,d4]∧ps=p0++(p1++(p2++(p3++p4)))∧DataW.Trod enc P w base spare held t0 v0 d0 p0∧DataW.Trod enc P w base spare held t1 v1 d1 p1∧DataW.Trod enc P w base spare held t2 v2 d2 p2∧DataW.Trod enc P w base spare held t3 v3 d3 p3∧DataW.Trod enc P w base spare held t4 v4 d4 p4:=by
 obtain ⟨v0,vs,d0,ds',p0,q,hargs,rfl,rfl,hd0,hr0⟩:=trodAll_cons h
 obtain ⟨v1,vs1,d1,ds1,p1,q1,rfl,rfl,rfl,hd1,hr1⟩:=trodAll_cons hr0
 obtain ⟨v2,vs2,d2,ds2,p2,q2,rfl,rfl,rfl,hd2,hr2⟩:=trodAll_cons hr1
 obtain ⟨v3,vs3,d3,ds3,p3,q3,rfl,rfl,rfl,hd3,hr3⟩:=trodAll_cons hr2
 obtain ⟨v4,vs4,d4,ds4,p4,q4,rfl,rfl,rfl,hd4,hr4⟩:=trodAll_cons hr3
 obtain ⟨rfl,rfl,rfl⟩:=trodAll_nil hr4
 exact ⟨v0,v1,v2,v3,v4,d0,d1,d2,d3,d4,p0,p1,p2,p3,p4,by cases args;simp_all,rfl,by simp,hd0,hd1,hd2,hd3,hd4⟩
theorem trodAll_mk5 {t0 t1 t2 t3 t4:TypeId} {v0 v1 v2 v3 v4:Value} {d0 d1 d2 d3 d4:DataW H} {p0 p1 p2 p3 p4:List MemPlace} (h0:DataW.Trod enc P w base spare held t0 v0 d0 p0) (h1:DataW.Trod enc P w base spare held t1 v1 d1 p1) (h2:DataW.Trod enc P w base spare held t2 v2 d2 p2) (h3:DataW.Trod enc P w base spare held t3 v3 d3 p3) (h4:DataW.Trod enc P w base spare held t4 v4 d4 p4) :
  DataW.TrodAll enc P w base spare held [t0,t1,t2,t3,t4] [v0,v1,v2,v3,v4] [d0,d1,d2,d3,d4] (p0++(p1++(p2++(p3++p4)))):=⟨p0,_,h0,⟨p1,_,h1,trodAll_mk3 h2 h3 h4,rfl⟩,rfl⟩
end
theorem Sl1.iv {h:AH} {x:AV} {cs:List AV} {e:TypeId} (hx:Sl1 h x cs) (he:∀(i:Nat) (c:AV),cs[i]? = some c→Ty Tryz.prog h e [c]) (hu:Tryz.prog.underlying e=some (.int .i64)) :
  ∃l,Iv (fun _=>0) h x l∧l.length=cs.length:=by
 have h1:∀c∈cs,∃n:Int,c=.int .i64 n:=by
  intro c hc
  obtain ⟨i,hi⟩:=List.mem_iff_getElem?.1 hc
  obtain ⟨n,hn,h2,h3⟩:=(he i c hi).int_inv hu
  exact ⟨n,by cases hn;rfl⟩
 let f:AV→Int:=fun v=>match v with | .int _ n=>n | _=>0
 have h2:cs=(cs.map f).map (AV.int .i64):=by
  rw [List.map_map]
  have:cs.map ((AV.int .i64) ∘ f)=cs.map id:=List.map_congr_left fun c hc=>by
   obtain ⟨n,rfl⟩:=h1 c hc
   rfl
  rw [this,List.map_id]
 refine ⟨cs.map f,?_,by simp⟩
 rcases hx with ⟨rfl,rfl⟩ | ⟨id,rfl,hg,hid⟩
 ·exact .inl ⟨rfl,rfl⟩
 ·refine .inr ⟨id,0,none,cs,false,false,by simp,hg,hid,rfl,fun k hk=>(by cases hk),by simp,?_⟩
  rw [List.drop_zero,←h2,List.length_map,List.take_length]
open Go.Abs.Wal
def upc (l:List Nat):List Nat:=if unfE l=0 then piece l else []
def upn (l:List Nat):Nat:=if unfE l=0 then told l+8 else 0
theorem unfE_cases (l:List Nat):unfE l=5∨unfE l=0∨unfE l=4:=by
 unfold unfE
 split
 ·exact .inl rfl
 ·split
  ·exact .inr (.inr rfl)
  ·split
   ·exact .inl rfl
   ·split
    ·exact .inr (.inl rfl)
    ·exact .inr (.inr rfl)
theorem unfE_okk {l:List Nat} (h:unfE l=0):told l≤1048576∧told l+8≤l.length:=by
 unfold unfE at h
 split at h
 ·cases h
 ·split at h
  ·cases h
  ·split at h
   ·cases h
   ·omega
theorem sum_step {x c:Nat} (hx:x<65521) (hc:c<65536):(iw (BitVec.ofNat 32 x+BitVec.ofNat 32 c)).tmod 65521=iw (BitVec.ofNat 32 ((x+c)%65521)):=by
 have h1:iw (BitVec.ofNat 32 x+BitVec.ofNat 32 c)=((x+c:Nat):Int):=by
  rw [iw,BitVec.toNat_add,BitVec.toNat_ofNat,BitVec.toNat_ofNat]
  congr 1
  omega
 rw [h1,iw_ofNat (by omega)]
 exact tmod_nat _ 65521
theorem sum_end {x y:Nat} (hx:x<65521) (hy:y<65521):iw ((BitVec.ofNat 32 y <<< 16:W32) ||| BitVec.ofNat 32 x)=((y*65536+x:Nat):Int):=by
 rw [iw,BitVec.toNat_or,bv_shl8,BitVec.toNat_ofNat]
 have e1:y*2^16%4294967296=y*2^16:=Nat.mod_eq_of_lt (by omega)
 have e2:x%2^32=x:=Nat.mod_eq_of_lt (by omega)
 rw [e1,e2,or_of_lt (by omega)]
structure Wl (S:Sums):Prop extends St S where
 nw:∀f args h,f∈[25,32,33,31,203,29,57,59,60,69,68,67,90,91,92,94,96,97,101,114,115,116,117,135,65,113]→S f args h=none
section
variable {S : Sums}
theorem bytes0:bytesOf { data:=#[] }=[]:=rfl
theorem cv:∀(h:AH) (b:Nat),evConvert Tryz.prog h 5 81 (.int .u8 (b:Int))=some (.val (.int .u32 (iw (BitVec.ofNat 32 b))) h):=fun h b=>conv_w Tryz.underlying5 Tryz.underlying81 h b
theorem cv76 (h:AH) (n:Int):evConvert Tryz.prog h 81 3 (.int .u32 n)=some (.val (.int .i64 (IntKind.i64.wrap n)) h):=by
 simp only [evConvert,Tryz.underlying81,Tryz.underlying3,val?]
theorem take4 {l:List Nat} (h4:4≤l.length):∃b0 b1 b2 b3 r,l=b0::b1::b2::b3::r:=by
 match l,h4 with
 | b0::b1::b2::b3::r,_=>exact ⟨b0,b1,b2,b3,r,rfl⟩
theorem toldC (hS:Wl S) {h:AH} {v:AV} {l:List Nat} (hb:Bs h v l) (h4:4≤l.length) (hl:∀b∈l,b<256):RnC Tryz.prog S 135 [v] h fun r h'=>r=.int .u32 (told l:Nat)∧Fr h h':=by
 obtain ⟨b0,b1,b2,b3,r,rfl⟩:=take4 h4
 rcases hb with ⟨rfl,h0⟩ | ⟨id,off,c,cs,o,tx,rfl,hg,hid,hlen,hc,hx⟩
 ·cases h0
 ·have q0:=bs_get hx (i:=0) rfl
  have q1:=bs_get hx (i:=1) rfl
  have q2:=bs_get hx (i:=2) rfl
  have q3:=bs_get hx (i:=3) rfl
  rw [Nat.add_zero] at q0
  have a0:b0<256:=hl _ (by simp)
  have a1:b1<256:=hl _ (by simp)
  have a2:b2<256:=hl _ (by simp)
  have a3:b3<256:=hl _ (by simp)
  refine RnC.enter' Tryz.f135 _ 25 [.tmp 2] (hS.nw _ _ _ (by simp)) bd135 Tryz.func135 rfl rfl rfl ?_
  simp -dsimp (disch:=(repeat first | rw [nxn] | rw [nxp]);try omega) only [go_sem,evLen]
  refine syDraw.go0 (by kernel_rfl) ?_
  simp -dsimp (disch:=(repeat first | rw [nxn] | rw [nxp]);try omega) only [go_sem,evLen,hg,q0,q1,q2,q3,cv,Nat.mul_one]
  refine ⟨?_,(Fr.refl h).more _ (by omega)⟩
  rw [four_or a0 a1 a2 a3,iw_ofNat (four_lt a0 a1 a2 a3)]
  rfl
theorem sumC (hS:Wl S) {h:AH} {v:AV} {l:List Nat} (hb:Bs h v l) (hl:∀b∈l,b<256) (hn:l.length≤1099511627776):RnC Tryz.prog S 117 [v] h fun r h'=>r=.int .u32 (sum l:Nat)∧Fr h h':=by
 refine RnC.enter' Tryz.f117 _ 27 [.tmp 2] (hS.nw _ _ _ (by simp)) bd117 Tryz.func117 rfl rfl rfl ?_
 rcases hb with ⟨rfl,rfl⟩ | ⟨id,off,c,cs,o,tx,rfl,hg,hid,hlen,hc,hx⟩
 ·simp -dsimp (disch:=(repeat first | rw [nxn] | rw [nxp]);try omega) only [go_sem,evLen]
  refine loopK_unroll ?_
  simp -dsimp (disch:=(repeat first | rw [nxn] | rw [nxp]);try omega) only [go_sem,evLen]
  exact ⟨by kernel_rfl,Fr.refl _⟩
 ·simp -dsimp (disch:=(repeat first | rw [nxn] | rw [nxp]);try omega) only [go_sem,evLen]
  refine loopK_of (RnL.rounds (Q:=fun ex s=>ex=.exit 0∧Fr h s.h∧s.d=[]∧s.t.get 3=some (.int .u32 (iw (BitVec.ofNat 32 (sumGo l 1 0).1)))∧s.t.get 4=some (.int .u32 (iw (BitVec.ofNat 32 (sumGo l 1 0).2))))
   (fun m s=>Fr h s.h∧s.d=[]∧s.t.get 7=some (.sl id off l.length 1 c)∧s.t.get 8=some (.int .i64 (l.length:Nat))∧∃i x y:Nat,s.t.get 9=some (.int .i64 (i:Nat))∧s.t.get 3=some (.int .u32 (iw (BitVec.ofNat 32 x)))∧s.t.get 4=some (.int .u32 (iw (BitVec.ofNat 32 y))) ∧
    i≤l.length∧x<65521∧y<65521∧sumGo (l.drop i) x y=sumGo l 1 0∧m=l.length-i) ?_ l.length ?_) ?_
  ·rintro m ⟨t,h1,d⟩ ⟨e1,e2,g7,g8,i,x,y,g9,g3,g4,hi,hx3,hy4,hs,rfl⟩
   dsimp only at e1 e2 g7 g8 g9 g3 g4
   subst e2
   by_cases c1:(i:Int)<(l.length:Nat)
   ·have hil:i<l.length:=by omega
    obtain ⟨b,hbi⟩:∃b,l[i]? = some b:=⟨_,List.getElem?_eq_getElem hil⟩
    have hb256:b<256:=hl _ (List.mem_of_getElem? hbi)
    have q:=bs_get hx hbi
    have hdrop:l.drop i=b::l.drop (i+1):=by rw [List.drop_eq_getElem_cons hil,(List.getElem?_eq_some_iff.1 hbi).2]
    have hg1:h1.get id=some (.cells cs o tx):=(e1.get id hid).trans hg
    have hm1:=sum_step (x:=x) (c:=b) hx3 (by omega)
    have hm2:=sum_step (x:=y) (c:=(x+b)%65521) hy4 (by omega)
    simp -dsimp (disch:=(repeat first | rw [nxn] | rw [nxp]);try omega) only [go_sem,evLen,c1,g7,g8,g9,g3,g4,hg1,q,cv,hm1,hm2,Nat.mul_one]
    refine ⟨l.length-(i+1),by omega,e1,trivial,trivial,trivial,i+1,(x+b)%65521,(y+(x+b)%65521)%65521,rfl,rfl,rfl,by omega,Nat.mod_lt _ (by decide),Nat.mod_lt _ (by decide),?_,rfl⟩
    rw [←hs,hdrop];rfl
   ·obtain rfl:i=l.length:=by omega
    simp -dsimp (disch:=(repeat first | rw [nxn] | rw [nxp]);try omega) only [go_sem,evLen,c1,g7,g8,g9,g3,g4]
    rw [List.drop_length] at hs
    rw [←hs]
    exact ⟨trivial,e1,trivial,rfl,rfl⟩
  ·simp -dsimp (disch:=(repeat first | rw [nxn] | rw [nxp]);try omega) only [go_sem,evLen]
   exact ⟨Fr.refl _,trivial,trivial,trivial,0,1,0,rfl,rfl,rfl,Nat.zero_le _,by decide,by decide,rfl,rfl⟩
  ·rintro ex ⟨t,h1,d⟩ ⟨rfl,e1,rfl,g3,g4⟩
   dsimp only at e1 g3 g4
   simp -dsimp (disch:=(repeat first | rw [nxn] | rw [nxp]);try omega) only [go_sem,evLen,g3,g4]
   refine ⟨?_,e1⟩
   obtain ⟨l1,l2⟩:=sumGo_lt l 1 0 (by decide) (by decide)
   rw [sum_end l1 l2]
   rfl
theorem unf_short {l:List Nat} (h:l.length<4):unfE l=5:=by unfold unfE;rw [if_pos h]
theorem unf_long {l:List Nat} (h4:4≤l.length) (h:1048576<told l):unfE l=4:=by unfold unfE;rw [if_neg (by omega),if_pos h]
theorem unf_more {l:List Nat} (h4:4≤l.length) (h:told l≤1048576) (hm:l.length<told l+8):unfE l=5:=by unfold unfE;rw [if_neg (by omega),if_neg (by omega),if_pos hm]
theorem unf_sum {l:List Nat} (h4:4≤l.length) (h:told l≤1048576) (hm:told l+8≤l.length):unfE l=if told (l.drop (told l+4))=sum (l.take (told l+4)) then 0 else 4:=by
 unfold unfE;rw [if_neg (by omega),if_neg (by omega),if_neg (by omega)]
theorem unfC (hS:Wl S) {h:AH} {v:AV} {l:List Nat} (hb:Bs h v l) (hl:∀b∈l,b<256) (hn:l.length≤1099511627776) :
  RnC Tryz.prog S 101 [v] h fun r h'=>r=.tup [.str (upc l),.int .i64 (upn l:Nat),.int .i64 (unfE l:Nat)]∧Fr h h':=by
 refine RnC.enter' Tryz.f101 _ 37 [.tmp 2,.tmp 3,.tmp 4] (hS.nw _ _ _ (by simp)) bd101 Tryz.func101 rfl rfl rfl ?_
 have hb0:=hb
 rcases hb with ⟨rfl,rfl⟩ | ⟨id,off,c,cs,o,tx,rfl,hg,hid,hlen,hc,hx⟩
 ·simp -dsimp (disch:=(repeat first | rw [nxn] | rw [nxp]);try omega) only [go_sem,evLen,bytes0]
  exact ⟨rfl,Fr.refl _⟩
 ·by_cases c1:(l.length:Int)<4
  ·simp -dsimp (disch:=(repeat first | rw [nxn] | rw [nxp]);try omega) only [go_sem,evLen,bytes0,c1]
   have k:=unf_short (l:=l) (by omega)
   exact ⟨by simp only [upc,upn,k];rfl,Fr.refl _⟩
  ·have h4:4≤l.length:=by omega
   simp -dsimp (disch:=(repeat first | rw [nxn] | rw [nxp]);try omega) only [go_sem,evLen,bytes0,c1]
   refine callK_of (toldC hS hb0 h4 hl) ?_
   rintro r h1 ⟨rfl,hf1⟩
   by_cases c2:(1048576:Int)<(told l:Nat)
   ·simp -dsimp (disch:=(repeat first | rw [nxn] | rw [nxp]);try omega) only [go_sem,evLen,c2,bytes0]
    have k:=unf_long h4 (by omega)
    exact ⟨by simp only [upc,upn,k];rfl,hf1⟩
   ·by_cases c3:(l.length:Int)<((told l:Nat):Int)+8
    ·simp -dsimp (disch:=(repeat first | rw [nxn] | rw [nxp]);try omega) only [go_sem,evLen,c2,c3,bytes0,cv76]
     have k:=unf_more h4 (by omega) (by omega)
     exact ⟨by simp only [upc,upn,k];rfl,hf1⟩
    ·simp -dsimp (disch:=(repeat first | rw [nxn] | rw [nxp]);try omega) only [go_sem,evLen,c2,c3,bytes0,cv76]
     refine syDraw.go0 (by kernel_rfl) ?_
     have k:=unf_sum h4 (by omega) (by omega)
     obtain ⟨v1,s1,b1,w1,_⟩:=(hb0.fr hf1).slice_from Tryz.underlying87 tz5 (lo:=told l+4) (by omega)
     obtain ⟨v2,s2,b2,w2,_⟩:=(hb0.fr hf1).slice_to Tryz.underlying87 tz5 (hi:=told l+4) (by omega)
     obtain ⟨v3,s3,b3,w3,_⟩:=(hb0.fr hf1).slice_mid Tryz.underlying87 tz5 (lo:=4) (hi:=told l+4) (by omega) (by omega)
     have e4:((told l+4:Nat):Int)=((told l:Nat):Int)+8-4:=by omega
     rw [e4] at s1 s2 s3
     rw [show ((4:Nat):Int)=4 from rfl] at s3
     simp -dsimp (disch:=(repeat first | rw [nxn] | rw [nxp]);try omega) only [go_sem,evLen,c2,c3,bytes0,cv76,s1]
     refine callK_of (toldC hS (b1.fr ((Fr.refl h1).more _ (by omega))) (by simp;omega) (fun b hm=>hl b (List.mem_of_mem_drop hm))) ?_
     rintro r h2 ⟨rfl,hf2⟩
     simp -dsimp (disch:=(repeat first | rw [nxn] | rw [nxp]);try omega) only [go_sem,evLen,c2,c3,bytes0,cv76,s2]
     refine callK_of (sumC hS (b2.fr (((Fr.refl h1).more _ (by omega)).trans hf2)) (fun b hm=>hl b (List.mem_of_mem_take hm)) (by simp;omega)) ?_
     rintro r h3 ⟨rfl,hf3⟩
     have hfa:Fr h h3:=((hf1.more _ (by omega)).trans hf2).trans hf3
     by_cases c4:told (l.drop (told l+4))=sum (l.take (told l+4))
     ·have c4':((told (l.drop (told l+4)):Nat):Int)=((sum (l.take (told l+4)):Nat):Int):=by rw [c4]
      rw [if_pos c4] at k
      have tx3:=(b3.fr (((Fr.refl h1).more _ (by omega)).trans (hf2.trans hf3))).text Tryz.underlying87 Tryz.underlying5 Tryz.underlying9 (fun b hm=>hl b (List.mem_of_mem_take (List.mem_of_mem_drop hm)))
      simp -dsimp (disch:=(repeat first | rw [nxn] | rw [nxp]);try omega) only [go_sem,evLen,c4',s3,tx3]
      refine ⟨?_,hfa⟩
      ·simp only [upc,upn,k,if_true]
       rfl
     ·have c4':¬((told (l.drop (told l+4)):Nat):Int)=((sum (l.take (told l+4)):Nat):Int):=by omega
      rw [if_neg c4] at k
      simp -dsimp (disch:=(repeat first | rw [nxn] | rw [nxp]);try omega) only [go_sem,evLen,c4',bytes0]
      refine ⟨?_,hfa⟩
      ·simp only [upc,upn,k]
       rfl
theorem ai9:appI Tryz.prog 9=some (1,16):=by kernel_rfl
def tot (l:List Nat):List (List Nat)×Nat×Nat:=scn (l.length+1) l
theorem drop_add {l:List Nat} {w k:Nat}:(l.drop w).drop k=l.drop (w+k):=by rw [List.drop_drop]
theorem scanC (hS:Wl S) {h:AH} {v:AV} {l:List Nat} (hb:Bs h v l) (hl:∀b∈l,b<256) (hn:l.length≤1048576) :
  RnC Tryz.prog S 59 [v] h fun r h'=>∃sv,r=.tup [sv,.int .i64 ((tot l).2.1:Nat),.int .i64 ((tot l).2.2:Nat)]∧Ss h.nx h' sv (tot l).1∧Fr h h':=by
 refine RnC.enter' Tryz.f59 _ 38 [.tmp 2,.tmp 3,.tmp 4] (hS.nw _ _ _ (by simp)) bd59 Tryz.func59 rfl rfl rfl ?_
 have hb0:=hb
 rcases hb with ⟨rfl,rfl⟩ | ⟨id,off,c,cs,o,tx,rfl,hg,hid,hlen,hc,hx⟩
 ·simp -dsimp (disch:=(repeat first | rw [nxn] | rw [nxp]);try omega) only [go_sem,evLen]
  refine loopK_unroll ?_
  simp -dsimp (disch:=(repeat first | rw [nxn] | rw [nxp]);try omega) only [go_sem,evLen]
  exact ⟨.nilsl,rfl,.inl ⟨rfl,rfl⟩,Fr.refl _⟩
 simp -dsimp (disch:=(repeat first | rw [nxn] | rw [nxp]);try omega) only [go_sem,evLen]
 refine loopK_of (RnL.rounds (Q:=fun ex s=>Fr h s.h∧s.d=[]∧∃sv,Ss h.nx s.h sv (tot l).1∧s.t.get 2=some sv∧s.t.get 3=some (.int .i64 ((tot l).2.1:Nat))∧((ex=.exit 0∧(tot l).2.2=0)∨(ex=.ret∧s.t.get 4=some (.int .i64 ((tot l).2.2:Nat)))))
  (fun m s=>Fr h s.h∧s.d=[]∧s.t.get 0=some (.sl id off l.length 1 c)∧∃(sv:AV) (w f:Nat) (acc:List (List Nat)),s.t.get 2=some sv∧Ss h.nx s.h sv acc∧s.t.get 3=some (.int .i64 (w:Nat))∧w≤l.length∧l.length-w<f ∧
   acc++(scn f (l.drop w)).1=(tot l).1∧w+(scn f (l.drop w)).2.1=(tot l).2.1∧(scn f (l.drop w)).2.2=(tot l).2.2∧acc.length≤w∧m=l.length-w) ?_ l.length ?_) ?_
 ·rintro m ⟨t,h1,d⟩ ⟨e1,e2,g0,sv,w,f,acc,g2,hs,g3,hw,hf,r1,r2,r3,hal,rfl⟩
  dsimp only at e1 e2 g0 g2 hs g3
  subst e2
  obtain ⟨f,rfl⟩:∃f',f=f'+1:=⟨f-1,by omega⟩
  by_cases c1:(w:Int)<(l.length:Nat)
  ·obtain ⟨v1,s1,b1,w1,_⟩:=(hb0.fr e1).slice_from Tryz.underlying87 tz5 (lo:=w) hw
   have hl1:∀b∈l.drop w,b<256:=fun b hm=>hl b (List.mem_of_mem_drop hm)
   simp -dsimp (disch:=(repeat first | rw [nxn] | rw [nxp]);try omega) only [go_sem,evLen,c1,g0,g2,g3,s1]
   refine callK_of (unfC hS b1 hl1 (by simp;omega)) ?_
   rintro r h2 ⟨rfl,hf2⟩
   rcases unfE_cases (l.drop w) with k | k | k
   ·simp only [scn,k] at r1 r2 r3
    simp -dsimp (disch:=(repeat first | rw [nxn] | rw [nxp]);try omega) only [go_sem,evLen,k,g0,g2,g3,upc,upn]
    refine ⟨e1.trans hf2,trivial,sv,?_,rfl,?_,.inr ⟨trivial,?_⟩⟩
    ·simp at r1
     rw [←r1];exact hs.fr hf2
    ·simp at r2
     rw [←r2]
    ·simp at r3
     rw [←r3];rfl
   ·obtain ⟨k1,k2⟩:=unfE_okk k
    have hdl:(l.drop w).length=l.length-w:=by simp
    simp only [scn,k,if_true] at r1 r2 r3
    have kc:upc (l.drop w)=piece (l.drop w):=by unfold upc;rw [if_pos k]
    have kn:upn (l.drop w)=told (l.drop w)+8:=by unfold upn;rw [if_pos k]
    obtain ⟨v4,h4,ha,hf4,hs4,_⟩:=Ss.app (P:=Tryz.prog) (h0:=h) (h:=h2.new (.cells [.str (piece (l.drop w))] true false)) (id1:=h2.nx) (c:=some 1) (o:=true) (t:=false) (p:=piece (l.drop w)) Tryz.underlying66 ai9 (by decide) (hs.fr (hf2.trans (Fr.new _ _))) ((e1.trans hf2).news _) (by omega) (AH.get_new_eq rfl) (Nat.lt_succ_self _) (by
     intro id off n sz c hh
     rcases hs with ⟨hh2,_⟩ | ⟨id',hh2,_,hh4,_⟩
     ·rw [hh] at hh2;cases hh2
     ·rw [hh] at hh2;cases hh2
      have:=hf2.nx
      omega)
    simp -dsimp (disch:=(repeat first | rw [nxn] | rw [nxp]);try omega) only [go_sem,evLen,k,kc,kn,g0,g2,g3,ha]
    rw [drop_add] at r1 r2 r3
    refine ⟨l.length-(w+(told (l.drop w)+8)),by omega,hf4,trivial,trivial,v4,w+(told (l.drop w)+8),f,acc++[piece (l.drop w)],rfl,hs4,?_,by omega,by omega,?_,?_,r3,by simp;omega,rfl⟩
    ·rfl
    ·simpa using r1
    ·omega
   ·simp only [scn,k] at r1 r2 r3
    simp -dsimp (disch:=(repeat first | rw [nxn] | rw [nxp]);try omega) only [go_sem,evLen,k,g0,g2,g3,upc,upn]
    refine ⟨e1.trans hf2,trivial,sv,?_,rfl,?_,.inr ⟨trivial,?_⟩⟩
    ·simp at r1
     rw [←r1];exact hs.fr hf2
    ·simp at r2
     rw [←r2]
    ·simp at r3
     rw [←r3];rfl
  ·obtain rfl:w=l.length:=by omega
   simp -dsimp (disch:=(repeat first | rw [nxn] | rw [nxp]);try omega) only [go_sem,evLen,c1,g0,g2,g3]
   have k:unfE (l.drop l.length)=5:=unf_short (by simp)
   simp only [scn,k] at r1 r2 r3
   refine ⟨e1,trivial,sv,?_,rfl,?_,.inl ⟨trivial,?_⟩⟩
   ·simp at r1
    rw [←r1];exact hs
   ·simp at r2
    rw [←r2]
   ·simp at r3
    rw [←r3]
 ·simp -dsimp (disch:=(repeat first | rw [nxn] | rw [nxp]);try omega) only [go_sem,evLen]
  exact ⟨Fr.refl _,trivial,trivial,.nilsl,0,l.length+1,[],rfl,.inl ⟨rfl,rfl⟩,rfl,Nat.zero_le _,by omega,rfl,by rw [Nat.zero_add];rfl,rfl,Nat.le_refl _,rfl⟩
 ·rintro ex ⟨t,h1,d⟩ ⟨e1,rfl,sv,hs,g2,g3,⟨rfl,r3⟩ | ⟨rfl,g4⟩⟩
  ·dsimp only at e1 hs g2 g3
   simp -dsimp (disch:=(repeat first | rw [nxn] | rw [nxp]);try omega) only [go_sem,evLen,g2,g3]
   exact ⟨sv,by rw [r3];rfl,hs,e1⟩
  ·dsimp only at e1 hs g2 g3 g4
   simp -dsimp (disch:=(repeat first | rw [nxn] | rw [nxp]);try omega) only [go_sem,evLen,g2,g3,g4]
   exact ⟨sv,rfl,hs,e1⟩
end
theorem Bn.appG {xt:TypeId} {d:TypeDesc} {h0 h:AH} {v x:AV} {l m:List Nat} (hd:Tryz.prog.underlying xt=some d) (hni:notInt d=true) (hb:Bn h0.nx h v l) (hn:lenA x=some m.length) (hnew:firstA h 1 m.length x=some (byC m)) (hf:Fr h0 h) (hl:l.length+m.length≤1073741824) :
  ∃v' h',evAppend Tryz.prog h #[87,xt] v x=some (.val v' h')∧Fr h0 h'∧Bn h0.nx h' v' (l++m):=by
 rcases hb with ⟨rfl,rfl⟩ | ⟨id,c,cs,tx,rfl,h2,h3,h4,h5,h6,h7⟩
 ·rw [evAppend_eq (len:=0) (old:=[]) Tryz.underlying87 hd hni ai5 hn hnew rfl rfl (byC_all m) (by omega) (by omega) rfl]
  by_cases hm:m.length=0
  ·rw [if_pos hm]
   have:m=[]:=List.length_eq_zero_iff.1 hm
   subst this
   exact ⟨_,_,rfl,hf,.inl ⟨rfl,rfl⟩⟩
  ·rw [if_neg hm]
   exact ⟨_,_,rfl,hf.news _,.inr ⟨h.nx,none,byC m,false,by simp,AH.get_new_eq rfl,Nat.lt_succ_self _,hf.nx,by rw [List.nil_append,←byC_length m,List.take_length],by rw [List.nil_append,byC_length];exact Nat.le_refl _,.inl rfl⟩⟩
 ·have hold:firstA h 1 l.length (.sl id 0 l.length 1 c)=some (byC l):=by
   rw [firstA_sl h2 (Nat.le_refl _) (by omega),List.drop_zero,Nat.mul_one,h5]
  rw [evAppend_eq Tryz.underlying87 hd hni ai5 hn hnew rfl hold (byC_all m) (by omega) (by omega) rfl]
  by_cases hm:m.length=0
  ·rw [if_pos hm]
   have:m=[]:=List.length_eq_zero_iff.1 hm
   subst this
   exact ⟨_,_,rfl,hf,.inr ⟨id,c,cs,tx,by simp,h2,h3,h4,by simpa using h5,by simpa using h6,by simpa using h7⟩⟩
  ·rw [if_neg hm]
   have hlm:(l++m).length=l.length+m.length:=by simp
   have hby:byC l++byC m=byC (l++m):=by simp [byC]
   have fin:∀(g:AH) (tf:Bool),Fr h0 g→g.nx=h.nx→∃v' h',newCells g (byC l++byC m) tf (fun id=>.sl id 0 (l.length+m.length) 1 none)=some (.val v' h')∧Fr h0 h'∧Bn h0.nx h' v' (l++m):=fun g tf hg hgn =>
    ⟨_,_,rfl,hg.news _,.inr ⟨g.nx,none,byC l++byC m,tf,by rw [hlm],AH.get_new_eq rfl,Nat.lt_succ_self _,hg.nx,by rw [hby,←byC_length (l++m),List.take_length],by rw [hby,byC_length];exact Nat.le_refl _,.inl rfl⟩⟩
   rcases h7 with rfl | rfl
   ·simp only
    rw [if_pos (by simp [ownBlock,h2])]
    exact fin _ _ (hf.del h4) rfl
   ·simp only
    rw [if_pos (by omega)]
    exact fin _ _ hf rfl
theorem str_first (h:AH) (s:List Nat):lenA (.str s)=some s.length∧firstA h 1 s.length (.str s)=some (byC s):=by
 refine ⟨rfl,?_⟩
 simp [firstA,byC]
/-! ### Numbers -/
theorem and127 (h:AH) (t:TypeId) (n:Nat) (hn:n<18446744073709551616):binA Tryz.prog h .and t (.int .u64 (n:Nat)) (.int .u64 127)=some (.int .u64 ((n%128:Nat):Int)):=by
 have e:(BitVec.ofInt 64 (n:Int) &&& BitVec.ofInt 64 127).toNat=n%128:=by
  rw [BitVec.toNat_and,BitVec.ofInt_natCast,BitVec.toNat_ofNat,Nat.mod_eq_of_lt hn]
  exact Nat.and_two_pow_sub_one_eq_mod n 7
 have e2:IntKind.u64.wrap ((n%128:Nat):Int)=((n%128:Nat):Int):=by
  show ((n%128:Nat):Int)%18446744073709551616=_
  omega
 rw [binA_and]
 show some (AV.int .u64 (IntKind.u64.wrap ((BitVec.ofInt 64 (n:Int) &&& BitVec.ofInt 64 127).toNat:Int)))=_
 rw [e,e2]
theorem shr7 (h:AH) (t:TypeId) (k:IntKind) (n:Nat):binA Tryz.prog h .shr t (.int .u64 (n:Nat)) (.int k 7)=some (.int .u64 ((n/128:Nat):Int)):=by
 rw [binA_shr,if_neg (by decide)]
 show some (AV.int .u64 ((n:Int).fdiv 128))=_
 rw [Int.fdiv_eq_ediv_of_nonneg _ (by decide)]
 congr 2
theorem cv64 (h:AH) (n:Nat) (hn:n<18446744073709551616):evConvert Tryz.prog h 3 62 (.int .i64 (n:Nat))=some (.val (.int .u64 (n:Nat)) h):=by
 have:IntKind.u64.wrap ((n:Nat):Int)=((n:Nat):Int):=by
  show ((n:Nat):Int)%18446744073709551616=_
  omega
 simp only [evConvert,Tryz.underlying3,Tryz.underlying62,val?,this]
theorem cv8 (h:AH) (n:Nat):evConvert Tryz.prog h 62 5 (.int .u64 (n:Nat))=some (.val (.int .u8 ((n%256:Nat):Int)) h):=by
 have:IntKind.u8.wrap ((n:Nat):Int)=((n%256:Nat):Int):=by
  show ((n:Nat):Int)%256=_
  omega
 simp only [evConvert,Tryz.underlying62,Tryz.underlying5,val?,this]
theorem or128 (h:AH) (t:TypeId) (n:Nat):∃m:Nat,binA Tryz.prog h .or t (.int .u8 (n:Nat)) (.int .u8 128)=some (.int .u8 (m:Nat)):=by
 rw [binA_or]
 refine ⟨(BitVec.ofInt 8 (n:Int) ||| BitVec.ofInt 8 128).toNat,?_⟩
 have hlt:=(BitVec.ofInt 8 (n:Int) ||| BitVec.ofInt 8 128).isLt
 show some (AV.int .u8 (IntKind.u8.wrap ((BitVec.ofInt 8 (n:Int) ||| BitVec.ofInt 8 128).toNat:Int)))=_
 have:IntKind.u8.wrap (((BitVec.ofInt 8 (n:Int) ||| BitVec.ofInt 8 128).toNat:Nat):Int)=(((BitVec.ofInt 8 (n:Int) ||| BitVec.ofInt 8 128).toNat:Nat):Int):=by
  show (((BitVec.ofInt 8 (n:Int) ||| BitVec.ofInt 8 128).toNat:Nat):Int)%256=_
  omega
 rw [this]
theorem and7 (h:AH) (t:TypeId) (n:Nat):∃m:Nat,binA Tryz.prog h .and t (.int .u8 (n:Nat)) (.int .u8 127)=some (.int .u8 (m:Nat)):=by
 rw [binA_and]
 refine ⟨(BitVec.ofInt 8 (n:Int) &&& BitVec.ofInt 8 127).toNat,?_⟩
 have hlt:=(BitVec.ofInt 8 (n:Int) &&& BitVec.ofInt 8 127).isLt
 show some (AV.int .u8 (IntKind.u8.wrap ((BitVec.ofInt 8 (n:Int) &&& BitVec.ofInt 8 127).toNat:Int)))=_
 have:IntKind.u8.wrap (((BitVec.ofInt 8 (n:Int) &&& BitVec.ofInt 8 127).toNat:Nat):Int)=(((BitVec.ofInt 8 (n:Int) &&& BitVec.ofInt 8 127).toNat:Nat):Int):=by
  show (((BitVec.ofInt 8 (n:Int) &&& BitVec.ofInt 8 127).toNat:Nat):Int)%256=_
  omega
 rw [this]
section
variable {S : Sums}
theorem revC (hS:Wl S) {n0:Nat} {h:AH} {v:AV} {l:List Nat} (hb:Bo n0 h v l) (hl:1≤l.length∧l.length≤3):RnC Tryz.prog S 113 [v] h fun r h'=>r=.tup []∧∃l',Bo n0 h' v l'∧l'.length=l.length∧h.nx≤h'.nx∧∀j,j<n0→h'.get j=h.get j:=by
 refine RnC.enter' Tryz.f113 _ 28 [] (hS.nw _ _ _ (by simp)) bd113 Tryz.func113 rfl rfl rfl ?_
 obtain ⟨id,c,cs,tx,rfl,h2,h3,h4,h5,h6,h7⟩:=hb
 match l,hl with
 | [a],_ =>
  simp -dsimp (disch:=(repeat first | rw [nxn] | rw [nxp]);try omega) only [go_sem,evLen]
  refine loopK_unroll ?_
  simp -dsimp (disch:=(repeat first | rw [nxn] | rw [nxp]);try omega) only [go_sem,evLen]
  exact ⟨trivial,[a],⟨id,c,cs,tx,rfl,h2,h3,h4,h5,h6,h7⟩,by first | trivial | rfl,by first | trivial | exact Nat.le_refl _,fun _ _=>by first | trivial | rfl⟩
 | [a,b],_ =>
  match cs,h5,h6 with
  | x::y::r,h5,h6 =>
   obtain ⟨rfl,rfl⟩:x=.int .u8 (a:Int)∧y=.int .u8 (b:Int):=by
    simpa [byC] using h5
   simp -dsimp (disch:=(repeat first | rw [nxn] | rw [nxp]);try omega) only [go_sem,evLen]
   refine loopK_unroll ?_
   simp -dsimp (disch:=(repeat first | rw [nxn] | rw [nxp]);try omega) only [go_sem,evLen]
   refine syDraw.go0 (by kernel_rfl) ?_
   simp -dsimp (disch:=(repeat first | rw [nxn] | rw [nxp]);try omega) only [go_sem,evLen,h2]
   refine loopK_unroll ?_
   simp -dsimp (disch:=(repeat first | rw [nxn] | rw [nxp]);try omega) only [go_sem,evLen]
   exact ⟨trivial,[b,a],⟨id,c,_,tx,rfl,AH.get_put_eq rfl,by show id<h.nx+16;omega,h4,by simp [byC],h6,h7⟩,by first | trivial | rfl,by show h.nx≤h.nx+16;omega,fun j hj=>by
    first | exact (AH.get_put_ne (by omega)).trans (AH.get_put_ne (by omega)) | exact AH.get_put_ne (by omega)⟩
 | [a,b,d],_ =>
  match cs,h5,h6 with
  | x::y::z::r,h5,h6 =>
   obtain ⟨rfl,rfl,rfl⟩:x=.int .u8 (a:Int)∧y=.int .u8 (b:Int)∧z=.int .u8 (d:Int):=by
    simpa [byC] using h5
   simp -dsimp (disch:=(repeat first | rw [nxn] | rw [nxp]);try omega) only [go_sem,evLen]
   refine loopK_unroll ?_
   simp -dsimp (disch:=(repeat first | rw [nxn] | rw [nxp]);try omega) only [go_sem,evLen]
   refine syDraw.go0 (by kernel_rfl) ?_
   simp -dsimp (disch:=(repeat first | rw [nxn] | rw [nxp]);try omega) only [go_sem,evLen,h2]
   refine loopK_unroll ?_
   simp -dsimp (disch:=(repeat first | rw [nxn] | rw [nxp]);try omega) only [go_sem,evLen]
   exact ⟨trivial,[d,b,a],⟨id,c,_,tx,rfl,AH.get_put_eq rfl,by show id<h.nx+16;omega,h4,by simp [byC],h6,h7⟩,by first | trivial | rfl,by show h.nx≤h.nx+16;omega,fun j hj=>by
    first | exact (AH.get_put_ne (by omega)).trans (AH.get_put_ne (by omega)) | exact AH.get_put_ne (by omega)⟩
end
end Go.Proofs.YtaooopaemphfjaaGreatDoor.tre
end