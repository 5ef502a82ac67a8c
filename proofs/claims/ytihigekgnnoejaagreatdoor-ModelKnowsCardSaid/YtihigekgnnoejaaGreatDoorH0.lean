/- Texts joined: MIg, MIh, MIj. -/
import Derived.Test.YtihigekgnnoejaaGreatDoorG9
set_option maxRecDepth 100000
set_option linter.unusedVariables false
set_option linter.unusedSimpArgs false
set_option maxHeartbeats 64000000
section
namespace Go.Proofs.YtihigekgnnoejaaGreatDoor.mdl
open Go Go.Abs Go.Proofs
theorem decA_pos (s:List Nat) (pos:Nat):1≤(decA s pos).2:=by
 unfold decA Utf8.decode
 simp only
 repeat' split
 all_goals first | exact Nat.le_refl 1 | exact (by decide:(1:Nat)≤2) | exact (by decide:(1:Nat)≤3) | exact (by decide:(1:Nat)≤4)
theorem nxEnd {s:List Nat} {pos it:Nat} {g:AH} (hg:g.get it=some (.sit s pos)) (h:s.length≤pos):evNext g (.ptr it 0)=some (.val (.tup [.bool false]) g):=by
 simp only [evNext,hg,List.getElem?_eq_none h]
theorem nxOne {s:List Nat} {pos it:Nat} {g:AH} (hg:g.get it=some (.sit s pos)) (h:pos<s.length):∃(n:Int) (q:Nat),pos<q∧evNext g (.ptr it 0)=some (.val (.tup [.bool true,.int .i64 (pos:Nat),.int .i32 n]) (g.put it (.sit s q))):=by
 simp only [evNext,hg,List.getElem?_eq_getElem h]
 split
 ·exact ⟨_,pos+1,Nat.lt_succ_self _,rfl⟩
 ·exact ⟨_,pos+(decA s pos).2,by have:=decA_pos s pos;omega,rfl⟩
theorem eqBt (h:AH) (a:Bool):binA Tryz.prog h .eql 4 (.bool a) (.bool true)=some (.bool a):=by cases a <;> kernel_rfl
theorem syO_rangeT {P:Program} {S:Sums} (E:Operand→AV) (t:TypeId) (x:Operand) (h:AH) (K:AV→AH→Prop):syO P S E (.range t x) h K=bnd (evRange P h t (E x)) (resK P S h K) ⟨⟩:=rfl
theorem syO_nextT {P:Program} {S:Sums} (E:Operand→AV) (it:Operand) (h:AH) (K:AV→AH→Prop):syO P S E (.next it true) h K=bnd (evNext h (E it)) (resK P S h K) ⟨⟩:=rfl
attribute [go_sem ↓] syO_rangeT syO_nextT
structure Nf (S:Sums):Prop extends Nb S where
 nf:∀f args h,f∈[107,135,151]→S f args h=none
section
variable {S : Sums}
theorem idxFC (hS:Nf S) {h:AH} (s:List Nat):RnC Tryz.prog S 151 [.str s,.func (.func 108) [] [],.bool true] h fun r h'=>(∃n,r=.int .i64 n)∧Fr h h':=by
 refine RnC.enter' Tryz.f151 _ 21 [.tmp 6] (hS.nf _ _ _ (by simp)) bd151 Tryz.func151 rfl rfl rfl ?_
 have rg:evRange Tryz.prog h 9 (.str s)=some (.val (.ptr h.nx 0) (h.new (.sit s 0))):=by simp [evRange,Tryz.underlying9]
 simp -dsimp only [go_sem,rg]
 refine loopK_of (RnL.rounds (Q:=fun ex u=>u.d=[]∧Fr h u.h∧(ex=.exit 0∨ex=.ret∧∃n,u.t.get 6=some (.int .i64 n)))
  (fun k u=>u.d=[]∧Fr h u.h∧h.nx<u.h.nx∧u.t.get 1=some (.func (.func 108) [] [])∧u.t.get 2=some (.bool true)∧u.t.get 10=some (.ptr h.nx 0)∧∃pos,u.h.get h.nx=some (.sit s pos)∧k=s.length-pos) ?_ s.length ?_) ?_
 ·rintro k ⟨tt,g,d⟩ ⟨e2,e1,e3,t1,t2,t10,pos,e4,rfl⟩
  dsimp only at e1 e2 e3 e4 t1 t2 t10
  subst e2
  by_cases c4:pos<s.length
  ·obtain ⟨n,q,hq,hn⟩:=nxOne e4 c4
   simp -dsimp only [go_sem,t1,t2,t10,hn]
   refine callK_of (folder1C hS.toMx n) ?_
   rintro r g2 ⟨rfl,rfl⟩
   have eb:=fun a=>eqBt (g.put h.nx (.sit s q)) a
   cases hb:(decide (n<97)||decide (122<n))
   ·simp -dsimp only [go_sem,eb,hb,t1,t2,t10]
    exact ⟨s.length-q,by omega,trivial,e1.put _ (Nat.le_refl _),e3,trivial,trivial,trivial,q,rfl,rfl⟩
   ·simp -dsimp only [go_sem,eb,hb,t1,t2,t10]
    exact ⟨trivial,e1.put _ (Nat.le_refl _),.inr ⟨trivial,_,rfl⟩⟩
  ·have hn:=nxEnd e4 (by omega)
   simp -dsimp only [go_sem,t1,t2,t10,hn]
   exact ⟨trivial,e1,.inl trivial⟩
 ·simp -dsimp only [go_sem]
  exact ⟨trivial,Fr.new _ _,Nat.lt_succ_self _,trivial,trivial,trivial,0,rfl,rfl⟩
 ·rintro ex ⟨tt,g,d⟩ ⟨rfl,e1,rfl | ⟨rfl,n,t6⟩⟩
  ·dsimp only at e1
   simp -dsimp only [go_sem]
   exact ⟨⟨_,rfl⟩,e1⟩
  ·dsimp only at e1 t6
   simp -dsimp only [go_sem,t6]
   exact ⟨⟨_,rfl⟩,e1⟩
theorem containsFC (hS:Nf S) {h:AH} (s:List Nat):RnC Tryz.prog S 107 [.str s,.func (.func 108) [] []] h fun r h'=>(∃b,r=.bool b)∧Fr h h':=by
 refine RnC.enter' Tryz.f107 _ 9 [.tmp 4] (hS.nf _ _ _ (by simp)) bd107 Tryz.func107 rfl rfl rfl ?_
 simp -dsimp only [go_sem]
 refine callK_of (Q:=fun r h'=>(∃n,r=.int .i64 n)∧Fr h h') ?_ ?_
 ·refine RnC.enter' Tryz.f135 _ 8 [.tmp 4] (hS.nf _ _ _ (by simp)) bd135 Tryz.func135 rfl rfl rfl ?_
  simp -dsimp only [go_sem]
  refine callK_of (idxFC hS s) ?_
  rintro r g ⟨⟨n,rfl⟩,f⟩
  try simp -dsimp only [go_sem]
  exact ⟨⟨_,rfl⟩,f⟩
 ·rintro r g ⟨⟨n,rfl⟩,f⟩
  simp -dsimp only [go_sem]
  exact ⟨⟨_,rfl⟩,f⟩
theorem folderC (hS:Nf S) {h:AH} (s:List Nat):RnC Tryz.prog S 80 [.str s] h fun r h'=>(∃b,r=.bool b)∧Fr h h':=by
 refine RnC.enter' Tryz.f80 _ 16 [.tmp 2] (hS.nx _ _ _ (by simp)) bd80 Tryz.func80 rfl rfl rfl ?_
 by_cases c1:(1:Int)≤(s.length:Nat)
 ·by_cases c2:((s.length:Nat):Int)≤16
  ·simp -dsimp only [go_sem,evLen,c1,c2]
   refine callK_of (containsFC hS s) ?_
   rintro r g ⟨⟨b,rfl⟩,f⟩
   cases b
   ·simp -dsimp only [go_sem,evLen]
    exact ⟨⟨_,rfl⟩,f⟩
   ·simp -dsimp only [go_sem,evLen]
    exact ⟨⟨_,rfl⟩,f⟩
  ·simp -dsimp only [go_sem,evLen,c1,c2]
   exact ⟨⟨_,rfl⟩,Fr.refl _⟩
 ·simp -dsimp only [go_sem,evLen,c1]
  exact ⟨⟨_,rfl⟩,Fr.refl _⟩
end
theorem leqS (h:AH) (t:TypeId) (a b:List Nat):binA Tryz.prog h .leq t (.str a) (.str b)=some (.bool (lessA a b||eqL a b)):=rfl
theorem eqIb (h:AH) (t:TypeId) (a b:Int):binA Tryz.prog h .eql t (.int .i64 a) (.int .i64 b)=some (.bool (a==b)):=by simp [binA,intA]
theorem leqIb (h:AH) (t:TypeId) (a b:Int):binA Tryz.prog h .leq t (.int .i64 a) (.int .i64 b)=some (.bool (decide (a≤b))):=by simp [binA,intA]
section
variable {S : Sums}
theorem mcheckC (hS:Nf S) {K:Nat→Nat} {h:AH} {cs:List AV} {m:Mt} (hm:Ma K h cs m):RnC Tryz.prog S 63 [.agg cs] h fun r h'=>(∃n,r=.int .i64 n)∧Fr h h':=by
 obtain ⟨w,rfl,hw⟩:=hm
 refine RnC.enter' Tryz.f63 _ 60 [.tmp 2] (hS.nx _ _ _ (by simp)) bd63 Tryz.func63 rfl rfl rfl ?_
 obtain ⟨lw,sw,ow⟩:=hw.ln
 have mw:=oneM ow
 have hl:=hw.2
 by_cases c1:(8:Int)<(m.rows.length:Nat)
 ·simp -dsimp only [go_sem,ow,mw,lw,c1]
  exact ⟨⟨_,rfl⟩,Fr.new _ _⟩
 simp -dsimp only [go_sem,ow,mw,lw,c1]
 have q1:(h.new (.cells [.int .i64 m.own,w] true false)).get h.nx=some (.cells [.int .i64 m.own,w] true false):=AH.get_new_eq rfl
 have f1:Fr h (h.new (.cells [.int .i64 m.own,w] true false)):=Fr.new _ _
 have n1:(h.new (.cells [.int .i64 m.own,w] true false)).nx=h.nx+1:=rfl
 generalize h.new (.cells [.int .i64 m.own,w] true false)=g1 at q1 f1 n1 ⊢
 refine callK_of (deviceC hS.toMx m.own) ?_
 rintro r g1 ⟨rfl,rfl⟩
 cases hd:(decide (1≤m.own)&&decide (m.own≤16))
 ·simp -dsimp only [go_sem,q1,ow,mw,lw,hd]
  exact ⟨⟨_,rfl⟩,f1⟩
 simp -dsimp only [go_sem,q1,ow,mw,lw,hd]
 have hw1:=hw.fr f1
 refine loopK_of (RnL.rounds (Q:=fun ex u=>u.d=[]∧Fr h u.h∧(ex=.exit 0∨ex=.ret∧∃n,u.t.get 2=some (.int .i64 n)))
  (fun k u=>u.d=[]∧Fr g1 u.h∧u.t.get 1=some (.ptr h.nx 0)∧(∃s,u.t.get 3=some (.str s))∧u.t.get 18=some w∧u.t.get 19=some (.int .i64 (m.rows.length:Nat))∧∃i:Nat,u.t.get 20=some (.int .i64 (i:Nat))∧i≤m.rows.length∧k=m.rows.length-i) ?_ m.rows.length ?_) ?_
 ·rintro k ⟨tt,g,d⟩ ⟨e2,e1,t1,⟨s,t3⟩,t18,t19,i,t20,hi,rfl⟩
  dsimp only at e1 e2 t1 t3 t18 t19 t20
  subst e2
  have hn:=e1.nx
  by_cases c4:(i:Int)<(m.rows.length:Nat)
  ·have hil:i<m.rows.length:=by omega
   obtain ⟨x,hx⟩:∃x,m.rows[i]? = some x:=⟨_,List.getElem?_eq_getElem hil⟩
   obtain ⟨id,off,c,cs,o,tx,wv,rfl,hgi,hidl,hle,hE,hwv⟩:=(hw1.fr e1).el hx
   obtain ⟨lwv,swv,owv⟩:=hwv.ln
   have mwv:=oneM owv
   have hvl:=hwv.2
   simp -dsimp (disch:=repeat first|rw [nxn]|rw [nxp]|omega) only [go_sem,c4,t1,t3,t18,t19,t20,hil,hgi,hle,hE,owv,mwv]
   have ff:Fr g ((g.new (.cells [.str [],.nilsl] true false)).put g.nx (.cells [.str x.folder,wv] true false)):=(Fr.new _ _).put _ (Nat.le_refl _)
   have w4:((g.new (.cells [.str [],.nilsl] true false)).put g.nx (.cells [.str x.folder,wv] true false)).get g.nx=some (.cells [.str x.folder,wv] true false):=AH.get_put_eq rfl
   have n4:((g.new (.cells [.str [],.nilsl] true false)).put g.nx (.cells [.str x.folder,wv] true false)).nx=g.nx+1:=rfl
   generalize (g.new (.cells [.str [],.nilsl] true false)).put g.nx (.cells [.str x.folder,wv] true false)=g4 at ff w4 n4 ⊢
   try simp -dsimp (disch:=repeat first|rw [nxn]|rw [nxp]|omega) only [go_sem,w4]
   refine callK_of (folderC hS x.folder) ?_
   rintro r g5 ⟨⟨b,rfl⟩,f5⟩
   have n5:=f5.nx
   have w5:=(f5.get _ (by omega)).trans w4
   have lsr:=fun g=>leqS g 9 x.folder s
   have e5:=(e1.trans ff).trans f5
   have q5:=(e5.get _ (by omega)).trans q1
   cases b
   ·simp -dsimp only [go_sem,w5,t3]
    exact ⟨trivial,f1.trans e5,.inr ⟨trivial,_,rfl⟩⟩
   cases hls:(lessA x.folder s||eqL x.folder s)
   ·simp -dsimp only [go_sem,w5,t3,lsr,hls,owv,mwv,lwv]
    have hw5:=(hwv.fr ff).fr f5
    refine loopK_of (RnL.rounds (Q:=fun ex u=>u.d=[]∧Fr g5 u.h∧((ex=.exit 2∧u.t.get 1=some (.ptr h.nx 0)∧u.t.get 3=some (.str x.folder)∧u.t.get 18=some (.sl id off m.rows.length 2 c)∧u.t.get 19=some (.int .i64 (m.rows.length:Nat))∧u.t.get 20=some (.int .i64 (i:Nat)))∨ex=.ret∧∃n,u.t.get 2=some (.int .i64 n)))
     (fun k u=>u.d=[]∧Fr g5 u.h∧u.t.get 1=some (.ptr h.nx 0)∧u.t.get 3=some (.str x.folder)∧u.t.get 18=some (.sl id off m.rows.length 2 c)∧u.t.get 19=some (.int .i64 (m.rows.length:Nat))∧u.t.get 20=some (.int .i64 (i:Nat))∧(∃y,u.t.get 6=some (.int .i64 y))∧u.t.get 37=some wv∧u.t.get 38=some (.int .i64 (x.own.length:Nat))∧∃p:Nat,u.t.get 39=some (.int .i64 (p:Nat))∧p≤x.own.length∧k=x.own.length-p) ?_ x.own.length ?_) ?_
    ·rintro k ⟨tt,g,d⟩ ⟨e2,e6,t1,t3,t18,t19,t20,⟨y,t6⟩,t37,t38,p,t39,hp,rfl⟩
     dsimp only at e6 e2 t1 t3 t18 t19 t20 t6 t37 t38 t39
     subst e2
     by_cases c5:(p:Int)<(x.own.length:Nat)
     ·have hpl:p<x.own.length:=by omega
      obtain ⟨q,hq⟩:∃q,x.own[p]? = some q:=⟨_,List.getElem?_eq_getElem hpl⟩
      obtain ⟨id2,off2,cc2,cs2,o2,tx2,rfl,hgi2,hidl2,_,hle2,hx2⟩:=(hw5.fr e6).at hq
      have hy2:cs2[off2+p*1]? = some (.int .i64 q):=by rw [Nat.mul_one];exact hx2
      have hle3:off2+p*1+1≤cs2.length:=by omega
      have q6:=(e6.get _ (by omega)).trans q5
      have ei:=fun g=>eqIb g 3 q m.own
      have li:=fun g=>leqIb g 3 q y
      simp -dsimp (disch:=repeat first|rw [nxn]|rw [nxp]|omega) only [go_sem,c5,t1,t3,t18,t19,t20,t6,t37,t38,t39,hpl,hgi2,hle2,hle3,hx2,hy2]
      refine callK_of (deviceC hS.toMx q) ?_
      rintro r g7 ⟨rfl,hg7⟩
      subst hg7
      cases hdq:(decide (1≤q)&&decide (q≤16))
      ·simp -dsimp only [go_sem,hdq,t1,t3,t6]
       exact ⟨trivial,e6,.inr ⟨trivial,_,rfl⟩⟩
      cases heq:(q==m.own)
      ·cases hlq:decide (q≤y)
       ·simp -dsimp (disch:=repeat first|rw [nxn]|rw [nxp]|omega) only [go_sem,hdq,t1,t3,t18,t19,t20,t6,t37,t38,t39,q6,ei,li,heq,hlq]
        exact ⟨x.own.length-(p+1),by omega,trivial,e6,trivial,trivial,trivial,trivial,trivial,⟨_,rfl⟩,trivial,trivial,p+1,rfl,by omega,rfl⟩
       ·simp -dsimp only [go_sem,hdq,t1,t3,t6,q6,ei,li,heq,hlq]
        exact ⟨trivial,e6,.inr ⟨trivial,_,rfl⟩⟩
      ·simp -dsimp only [go_sem,hdq,t1,t3,t6,q6,ei,heq]
       exact ⟨trivial,e6,.inr ⟨trivial,_,rfl⟩⟩
     ·simp -dsimp only [go_sem,c5,t1,t3,t18,t19,t20,t6,t37,t38,t39]
      exact ⟨trivial,e6,.inl ⟨trivial,trivial,trivial,trivial,trivial,trivial⟩⟩
    ·simp -dsimp only [go_sem,t1,t3,t18,t19,t20]
     exact ⟨trivial,Fr.refl _,trivial,trivial,trivial,trivial,trivial,⟨_,rfl⟩,trivial,trivial,0,rfl,Nat.zero_le _,rfl⟩
    ·rintro ex ⟨tt,g,d⟩ ⟨rfl,e6,⟨rfl,t1,t3,t18,t19,t20⟩ | ⟨rfl,n,t2⟩⟩
     ·dsimp only at e6 t1 t3 t18 t19 t20
      simp -dsimp (disch:=repeat first|rw [nxn]|rw [nxp]|omega) only [go_sem,t1,t3,t18,t19,t20]
      exact ⟨m.rows.length-(i+1),by omega,trivial,e5.trans e6,trivial,⟨_,rfl⟩,trivial,trivial,i+1,rfl,by omega,rfl⟩
     ·dsimp only at e6 t2
      simp -dsimp only [go_sem,t2]
      exact ⟨trivial,f1.trans (e5.trans e6),.inr ⟨trivial,_,rfl⟩⟩
   ·simp -dsimp only [go_sem,w5,t3,lsr,hls]
    exact ⟨trivial,f1.trans e5,.inr ⟨trivial,_,rfl⟩⟩
  ·simp -dsimp only [go_sem,c4,t1,t3,t18,t19,t20]
   exact ⟨trivial,f1.trans e1,.inl trivial⟩
 ·simp -dsimp only [go_sem]
  exact ⟨trivial,Fr.refl _,trivial,⟨_,rfl⟩,trivial,trivial,0,rfl,Nat.zero_le _,rfl⟩
 ·rintro ex ⟨tt,g,d⟩ ⟨rfl,e1,rfl | ⟨rfl,n,t2⟩⟩
  ·dsimp only at e1
   simp -dsimp only [go_sem]
   exact ⟨⟨_,rfl⟩,e1⟩
  ·dsimp only at e1 t2
   simp -dsimp only [go_sem,t2]
   exact ⟨⟨_,rfl⟩,e1⟩
end
def szM (m:Mt) (B:Nat):Prop:=m.rows.length≤B∧∀r∈m.rows,r.own.length≤B
theorem bldM0:evBuild Tryz.prog 43 []=some (.agg [.int .i64 0,.nilsl]):=by kernel_rfl
theorem bldW (s:List Nat):evBuild Tryz.prog 84 [(0,.str s)]=some (.agg [.str s,.nilsl]):=by kernel_rfl
theorem ma0 (K:Nat→Nat) (h:AH):Ma K h [.int .i64 0,.nilsl] ⟨0,[]⟩:=⟨.nilsl,rfl,.inl ⟨rfl,rfl⟩,Nat.zero_le _⟩
theorem neIb (h:AH) (t:TypeId) (a b:Int):binA Tryz.prog h .neq t (.int .i64 a) (.int .i64 b)=some (.bool (a != b)):=by simp [binA,intA]
theorem oy_ma {n0:Nat} {K K':Nat→Nat} {h:AH} {v:AV} {rows:List Rw} {o:Int} (hb:Oy 2 1 Wy n0 K' h v rows) (top:∀j,n0≤j→K j=0) (hl:rows.length≤1000000):Ma K h [.int .i64 o,v] ⟨o,rows⟩:=by
 refine ⟨v,rfl,hb.sls eyW (fun id o n c hv=>top id (hb.id eyW hv).1) fun cs x hx=>?_,hl⟩
 obtain ⟨wv,rfl,h1,h2,h3⟩:=hx
 exact ⟨wv,rfl,iv_of h1 h3 fun a ha=>top a (h1.blkLt ha).1⟩
theorem inC_map (l:List Int):inC l=l.map fun i=>AV.int .i64 i:=by
 induction l with
 | nil=>rfl
 | cons a l ih=>rw [List.map_cons,←ih];rfl
theorem inC_ins (l:List Int) (k:Nat) (d:Int):(inC l).take (k*1)++[.int .i64 d]++(inC l).drop (k*1)=inC (l.take k++d::l.drop k):=by simp [inC_map]
theorem inC_del (l:List Int) (k:Nat):(inC l).take (k*1)++(inC l).drop ((k+1)*1)=inC (l.take k++l.drop (k+1)):=by simp [inC_map]
section
variable {S : Sums}
theorem apply1C (hS:Nf S) {K:Nat→Nat} {h:AH} {cs:List AV} {m:Mt} {B:Nat} (fo:List Nat) (dv:Int) (hm:Ma K h cs m) (top:∀j,h.nx≤j→K j=0) (hsz:szM m B) (hB:B<1000000):RnC Tryz.prog S 61 [.agg cs,.agg [.int .i64 1,.str fo,.int .i64 dv]] h fun r h'=>(∃m' cs' e,r=.tup [.agg cs',.int .i64 e]∧Ma K h' cs' m'∧szM m' (B+1))∧Fr h h':=by
 have hm0:=hm
 obtain ⟨w,rfl,hw⟩:=hm
 refine RnC.enter' Tryz.f61 _ 170 [.cell 4 43,.tmp 5] (hS.nx _ _ _ (by simp)) bd61 Tryz.func61 rfl rfl rfl ?_
 obtain ⟨lw,sw,ow⟩:=hw.ln
 have mw:=oneM ow
 have hl:=hw.2
 simp -dsimp only [go_sem,ow,mw]
 generalize hg:(((h.new (.cells [.int .i64 m.own,w] true false)).new (.cells [.int .i64 1,.str fo,.int .i64 dv] true false)).new (.cells [.int .i64 0,.nilsl] true false))=g1
 have n1:g1.nx=h.nx+3:=by rw [←hg];rfl
 have f1:Fr h g1:=by rw [←hg];exact ((Fr.new _ _).news _).news _
 have q1:g1.get h.nx=some (.cells [.int .i64 m.own,w] true false):=by rw [←hg];exact (AH.get_new_ne (by first | (simp [AH.new];done) | (simp [AH.new];omega))).trans ((AH.get_new_ne (by simp [AH.new])).trans (AH.get_new_eq rfl))
 have q2:g1.get (h.nx+1)=some (.cells [.int .i64 1,.str fo,.int .i64 dv] true false):=by rw [←hg];exact (AH.get_new_ne (by simp [AH.new])).trans (AH.get_new_eq rfl)
 have q3:g1.get (h.nx+1+1)=some (.cells [.int .i64 0,.nilsl] true false):=by rw [←hg];exact AH.get_new_eq rfl
 clear hg
 have bad:∀(g:AH) (e:Int),Fr h g→((∃m' cs' e',(AV.tup [.agg [.int .i64 0,.nilsl],.int .i64 e])=.tup [.agg cs',.int .i64 e']∧Ma K g cs' m'∧szM m' (B+1))∧Fr h g):=fun g e f=>⟨⟨⟨0,[]⟩,_,_,rfl,ma0 K g,Nat.zero_le _,fun r hr=>by cases hr⟩,f⟩
 try simp -dsimp only [go_sem,q1,ow,mw]
 refine callK_of (mcheckC hS (hm0.fr f1)) ?_
 rintro r g2 ⟨⟨n,rfl⟩,f2⟩
 have n2:=f2.nx
 have f12:=f1.trans f2
 have p1:=(f2.get _ (by omega)).trans q1
 have p2:=(f2.get _ (by omega)).trans q2
 have p3:=(f2.get _ (by omega)).trans q3
 by_cases hn:n=0
 case neg =>
  have nb:=fun g=>neIb g 89 n 0
  have hnb:(n != 0)=true:=by simp [hn]
  simp -dsimp only [go_sem,nb,hnb,bldM0,p3]
  exact bad _ _ (f12.put _ (by omega))
 subst hn
 have hne0:∀g,binA Tryz.prog g .neq 89 (.int .i64 0) (.int .i64 0)=some (.bool false):=fun g=>neIb g _ 0 0
 have hmc:Ma (fun j=>if j=h.nx+1+1 then 9 else K j) h [.int .i64 m.own,w] m:=hm0.col fun j hj hk=>(if_neg (by omega)).trans hk
 have ktop:∀j,h.nx+3≤j→(fun j=>if j=h.nx+1+1 then 9 else K j) j=0:=fun j hj=>(if_neg (by omega)).trans (top j (by omega))
 have kbx:(fun j=>if j=h.nx+1+1 then 9 else K j) (h.nx+1+1)=9:=if_pos rfl
 generalize (fun j=>if j=h.nx+1+1 then 9 else K j)=K0 at hmc ktop kbx
 have hm2:=(hmc.fr f1).fr f2
 simp -dsimp only [go_sem,hne0,p2]
 refine callK_of (folderC hS fo) ?_
 rintro r g3 ⟨⟨b,rfl⟩,f3⟩
 have n3:=f3.nx
 have f13:=f12.trans f3
 have r1:=(f3.get _ (by omega)).trans p1
 have r2:=(f3.get _ (by omega)).trans p2
 have r3:=(f3.get _ (by omega)).trans p3
 cases b
 ·simp -dsimp only [go_sem,bldM0,r3]
  exact bad _ _ (f13.put _ (by omega))
 by_cases hd:dv=0
 case neg =>
  simp -dsimp only [go_sem,r2,hd,bldM0,r3]
  exact bad _ _ (f13.put _ (by omega))
 subst hd
 simp -dsimp only [go_sem,r2,r1,ow,mw]
 generalize hT1:Go.Abs.Tr.set _ _ _=T1
 have T1_2:T1.get 2=some (.ptr h.nx 0):=by rw [←hT1];simp only [go_sem]
 have T1_3:T1.get 3=some (.ptr (h.nx+1) 0):=by rw [←hT1];simp only [go_sem]
 have T1_4:T1.get 4=some (.ptr (h.nx+1+1) 0):=by rw [←hT1];simp only [go_sem]
 clear hT1
 refine callK_of (mcopyC hS.toNb (hm2.fr f3) fun j hj=>ktop j (by omega)) ?_
 rintro r g4 ⟨⟨rv,K',rfl,kl,ko,hz⟩,f4⟩
 have n4:=f4.nx
 have f14:=f13.trans f4
 have s1:=(f4.get _ (by omega)).trans r1
 have s2:=(f4.get _ (by omega)).trans r2
 have s3:=(f4.get _ (by omega)).trans r3
 obtain ⟨orv,srv⟩:=hz.one
 have mrv:=oneM orv
 have crv:=cells1 orv
 have hz1:=hz.col eyW (K':=fun j=>if j=g4.nx then 9 else K' j) fun j hj _=>if_neg (by omega)
 have ko1:∀j,g4.nx+1≤j→(fun j=>if j=g4.nx then 9 else K' j) j=0:=fun j hj=>(if_neg (by omega)).trans (ko j (by omega))
 have ke1:(fun j=>if j=g4.nx then 9 else K' j) g4.nx=9:=if_pos rfl
 have kx1:(fun j=>if j=g4.nx then 9 else K' j) (h.nx+1+1)=9:=(if_neg (by omega)).trans ((kl _ (by omega)).trans kbx)
 generalize (fun j=>if j=g4.nx then 9 else K' j)=K1 at hz1 ko1 ke1 kx1
 have lrv:=Sl.len (P:=Tryz.prog) (e:=84) (hz.sls eyW (K2:=fun _=>0) (E2:=fun _ _=>True) (fun _ _ _ _ _=>rfl) fun _ _ _=>trivial) Tryz.underlying41
 have ff:Fr g4 ((g4.new (.cells [.int .i64 0,.nilsl] true false)).put g4.nx (.cells [.int .i64 m.own,rv] true false)):=(Fr.new _ _).put _ (Nat.le_refl _)
 have w4:((g4.new (.cells [.int .i64 0,.nilsl] true false)).put g4.nx (.cells [.int .i64 m.own,rv] true false)).get g4.nx=some (.cells [.int .i64 m.own,rv] true false):=AH.get_put_eq rfl
 have n5:((g4.new (.cells [.int .i64 0,.nilsl] true false)).put g4.nx (.cells [.int .i64 m.own,rv] true false)).nx=g4.nx+1:=rfl
 simp -dsimp (disch:=repeat first|rw [nxn]|rw [nxp]|omega) only [go_sem,T1_2,T1_3,T1_4,r2,s1,s2,ow,mw,orv,mrv,crv]
 generalize (g4.new (.cells [.int .i64 0,.nilsl] true false)).put g4.nx (.cells [.int .i64 m.own,rv] true false)=g5 at ff w4 n5 ⊢
 refine callK_of (findRC hS.toMz fo (((hm2.fr f3).fr f4).fr ff)) ?_
 rintro r g6 ⟨rfl,f6⟩
 have n6:=f6.nx
 have f46:=ff.trans f6
 have f16:=f14.trans f46
 have u1:=(f46.get _ (by omega)).trans s1
 have u2:=(f46.get _ (by omega)).trans s2
 have u3:=(f46.get _ (by omega)).trans s3
 have u4:=(f6.get _ (by omega)).trans w4
 have hz6:=hz1.fr eyW f46
 have hile:=findR_le m.rows fo
 have hilt:(findR m.rows fo).2=true→(findR m.rows fo).1<m.rows.length:=fun hh=>by
  simp only [findR,Bool.and_eq_true,decide_eq_true_eq] at hh
  exact hh.1
 cases his:(findR m.rows fo).2
 case true =>
  simp -dsimp (disch:=repeat first|rw [nxn]|rw [nxp]|omega) only [go_sem,T1_2,T1_3,T1_4,u2,bldM0,u3]
  exact bad _ _ (f16.put _ (by omega))
 by_cases c8:((m.rows.length:Nat):Int)=8
 ·simp -dsimp (disch:=repeat first|rw [nxn]|rw [nxp]|omega) only [go_sem,T1_2,T1_3,T1_4,u1,u2,ow,mw,lw,c8,bldM0,u3]
  exact bad _ _ (f16.put _ (by omega))
 have hzi:=fun id o n c hv=>hz6.id eyW (id:=id) (o:=o) (n:=n) (c:=c) hv
 obtain ⟨css,a2,a3,a4,a5,a6⟩:=hz6
 have hcl:css.flatten.length=m.rows.length*2:=by rw [flz (oy_len eyW a3 a4),a3]
 simp -dsimp (disch:=repeat first|rw [nxn]|rw [nxp]|omega) only [go_sem,T1_2,T1_3,T1_4,u1,u2,u4,ow,mw,lw,c8,orv,mrv,bldW,his]
 have f7:Fr g6 (g6.new (.cells [.str fo,.nilsl] true false)):=Fr.new _ _
 have v7:(g6.new (.cells [.str fo,.nilsl] true false)).get g6.nx=some (.cells [.str fo,.nilsl] true false):=AH.get_new_eq rfl
 have n7:(g6.new (.cells [.str fo,.nilsl] true false)).nx=g6.nx+1:=rfl
 generalize g6.new (.cells [.str fo,.nilsl] true false)=g7 at f7 v7 n7 ⊢
 generalize (findR m.rows fo).1=i at *
 refine callK_of (insRwC hS.toNi (a2.fr f7) hcl hile hl v7 rfl (fun id o n c hv=>by have:=(hzi id o n c hv).2.1;omega) (oy_one eyW a3 a4) rfl (by omega)) ?_
 rintro r g8 ⟨id,rfl,b2,b3,b4,b5⟩
 have hK2:∀j,j<g7.nx→(fun j=>if j=id then 1 else K1 j) j=K1 j:=fun j hj=>if_neg (by omega)
 have hK3:(fun j=>if j=id then 1 else K1 j) id=1:=if_pos rfl
 generalize (fun j=>if j=id then 1 else K1 j)=K2 at hK2 hK3
 have hgk:∀j,j<g7.nx→K1 j=0∨K1 j=5∨K1 j=9→g8.get j=g7.get j:=fun j hj hk=>b5 j hj fun id' o n c hv=>by
  have:=(hzi id' o n c hv).2.2.1
  intro hh
  subst hh
  omega
 have hz8:=Oy.ins eyW (E:=Wy) (h:=g7) (K:=K1) (K':=K2) (x:=⟨fo,[]⟩) b2 (fun id' o n c hh=>by cases hh;rfl) b3 a3 (fun i cs x h1 h2=>eyW.gk (a4 i cs x h1 h2) (f7.gk _) fun a ha=>f7.get a (eyW.own (a4 i cs x h1 h2) ha).2.2) a6 hile rfl ⟨.nilsl,rfl,.inl ⟨rfl,rfl⟩,(fun a ha=>by cases ha),Nat.zero_le _⟩ b4 (fun j hj hk=>hgk j hj (by omega)) hK2 hK3
 have x3:=(b5 (h.nx+1+1) (by omega) fun id' o n c hv=>by have:=(hzi id' o n c hv).1;omega).trans ((f7.get _ (by omega)).trans u3)
 have x4:=(hgk g4.nx (by omega) (.inr (.inr ke1))).trans ((f7.get _ (by omega)).trans u4)
 have hz9:Oy 2 1 Wy g3.nx K2 ((g8.put g4.nx (.cells [.int .i64 m.own,.sl id 0 (m.rows.length+1) 2 none] true false)).put (h.nx+1+1) (.cells [.int .i64 m.own,.sl id 0 (m.rows.length+1) 2 none] true false)) (.sl id 0 (m.rows.length+1) 2 none) (m.rows.take i++⟨fo,[]⟩::m.rows.drop i):=hz8.kc eyW ⟨Nat.le_refl _,fun j hj hk=>(AH.get_put_ne (fun hh=>by subst hh;rw [hK2 _ (by omega),kx1] at hk;omega)).trans (AH.get_put_ne (fun hh=>by subst hh;rw [hK2 _ (by omega),ke1] at hk;omega))⟩
 simp -dsimp (disch:=repeat first|rw [nxn]|rw [nxp]|omega) only [go_sem,T1_2,T1_3,T1_4,x3,x4]
 have hml:(m.rows.take i++(⟨fo,[]⟩:Rw)::m.rows.drop i).length≤B+1:=by have:=hsz.1;simp;omega
 refine ⟨⟨⟨m.own,m.rows.take i++⟨fo,[]⟩::m.rows.drop i⟩,_,_,rfl,oy_ma hz9 (fun j hj=>top j (by omega)) (by omega),hml,fun r hr=>?_⟩,(⟨by omega,fun j hj=>(b5 j (by omega) fun id' o n c hv=>by have:=(hzi id' o n c hv).1;omega).trans ((f7.get _ (by omega)).trans (f16.get _ hj))⟩:Fr h g8).put _ (by omega) |>.put _ (by omega)⟩
 rcases List.mem_append.1 hr with hr | hr
 ·exact Nat.le_succ_of_le (hsz.2 r (List.mem_of_mem_take hr))
 ·rcases List.mem_cons.1 hr with rfl | hr
  ·exact Nat.zero_le _
  ·exact Nat.le_succ_of_le (hsz.2 r (List.mem_of_mem_drop hr))
theorem apply2C (hS:Nf S) {K:Nat→Nat} {h:AH} {cs:List AV} {m:Mt} {B:Nat} (fo:List Nat) (dv:Int) (hm:Ma K h cs m) (top:∀j,h.nx≤j→K j=0) (hsz:szM m B) (hB:B<1000000):RnC Tryz.prog S 61 [.agg cs,.agg [.int .i64 2,.str fo,.int .i64 dv]] h fun r h'=>(∃m' cs' e,r=.tup [.agg cs',.int .i64 e]∧Ma K h' cs' m'∧szM m' (B+1))∧Fr h h':=by
 have hm0:=hm
 obtain ⟨w,rfl,hw⟩:=hm
 refine RnC.enter' Tryz.f61 _ 170 [.cell 4 43,.tmp 5] (hS.nx _ _ _ (by simp)) bd61 Tryz.func61 rfl rfl rfl ?_
 obtain ⟨lw,sw,ow⟩:=hw.ln
 have mw:=oneM ow
 have hl:=hw.2
 simp (maxSteps:=9^9) -dsimp (disch:=repeat first|rw [nxn]|rw [nxp]|omega) only [go_sem,ow,mw]
 generalize hg:(((h.new (.cells [.int .i64 m.own,w] true false)).new (.cells [.int .i64 2,.str fo,.int .i64 dv] true false)).new (.cells [.int .i64 0,.nilsl] true false))=g1
 have n1:g1.nx=h.nx+3:=by rw [←hg];rfl
 have f1:Fr h g1:=by rw [←hg];exact ((Fr.new _ _).news _).news _
 have q1:g1.get h.nx=some (.cells [.int .i64 m.own,w] true false):=by rw [←hg];exact (AH.get_new_ne (by first | (simp [AH.new];done) | (simp [AH.new];omega))).trans ((AH.get_new_ne (by simp [AH.new])).trans (AH.get_new_eq rfl))
 have q2:g1.get (h.nx+1)=some (.cells [.int .i64 2,.str fo,.int .i64 dv] true false):=by rw [←hg];exact (AH.get_new_ne (by simp [AH.new])).trans (AH.get_new_eq rfl)
 have q3:g1.get (h.nx+1+1)=some (.cells [.int .i64 0,.nilsl] true false):=by rw [←hg];exact AH.get_new_eq rfl
 clear hg
 have bad:∀(g:AH) (e:Int),Fr h g→((∃m' cs' e',(AV.tup [.agg [.int .i64 0,.nilsl],.int .i64 e])=.tup [.agg cs',.int .i64 e']∧Ma K g cs' m'∧szM m' (B+1))∧Fr h g):=fun g e f=>⟨⟨⟨0,[]⟩,_,_,rfl,ma0 K g,Nat.zero_le _,fun r hr=>by cases hr⟩,f⟩
 try simp (maxSteps:=9^9) -dsimp (disch:=repeat first|rw [nxn]|rw [nxp]|omega) only [go_sem,q1,ow,mw]
 refine callK_of (mcheckC hS (hm0.fr f1)) ?_
 rintro r g2 ⟨⟨n,rfl⟩,f2⟩
 have n2:=f2.nx
 have f12:=f1.trans f2
 have p1:=(f2.get _ (by omega)).trans q1
 have p2:=(f2.get _ (by omega)).trans q2
 have p3:=(f2.get _ (by omega)).trans q3
 by_cases hn:n=0
 case neg =>
  have nb:=fun g=>neIb g 89 n 0
  have hnb:(n != 0)=true:=by simp [hn]
  simp (maxSteps:=9^9) -dsimp (disch:=repeat first|rw [nxn]|rw [nxp]|omega) only [go_sem,nb,hnb,bldM0,p3]
  exact bad _ _ (f12.put _ (by omega))
 subst hn
 have hne0:∀g,binA Tryz.prog g .neq 89 (.int .i64 0) (.int .i64 0)=some (.bool false):=fun g=>neIb g _ 0 0
 have hmc:Ma (fun j=>if j=h.nx+1+1 then 9 else K j) h [.int .i64 m.own,w] m:=hm0.col fun j hj hk=>(if_neg (by omega)).trans hk
 have ktop:∀j,h.nx+3≤j→(fun j=>if j=h.nx+1+1 then 9 else K j) j=0:=fun j hj=>(if_neg (by omega)).trans (top j (by omega))
 have kbx:(fun j=>if j=h.nx+1+1 then 9 else K j) (h.nx+1+1)=9:=if_pos rfl
 generalize (fun j=>if j=h.nx+1+1 then 9 else K j)=K0 at hmc ktop kbx
 have hm2:=(hmc.fr f1).fr f2
 simp (maxSteps:=9^9) -dsimp (disch:=repeat first|rw [nxn]|rw [nxp]|omega) only [go_sem,hne0,p2]
 refine callK_of (folderC hS fo) ?_
 rintro r g3 ⟨⟨b,rfl⟩,f3⟩
 have n3:=f3.nx
 have f13:=f12.trans f3
 have r1:=(f3.get _ (by omega)).trans p1
 have r2:=(f3.get _ (by omega)).trans p2
 have r3:=(f3.get _ (by omega)).trans p3
 cases b
 ·simp (maxSteps:=9^9) -dsimp (disch:=repeat first|rw [nxn]|rw [nxp]|omega) only [go_sem,bldM0,r3]
  exact bad _ _ (f13.put _ (by omega))
 by_cases hd:dv=0
 case neg =>
  simp (maxSteps:=9^9) -dsimp (disch:=repeat first|rw [nxn]|rw [nxp]|omega) only [go_sem,r2,hd,bldM0,r3]
  exact bad _ _ (f13.put _ (by omega))
 subst hd
 simp (maxSteps:=9^9) -dsimp (disch:=repeat first|rw [nxn]|rw [nxp]|omega) only [go_sem,r2,r1,ow,mw]
 generalize hT1:Go.Abs.Tr.set _ _ _=T1
 have T1_2:T1.get 2=some (.ptr h.nx 0):=by rw [←hT1];simp only [go_sem]
 have T1_3:T1.get 3=some (.ptr (h.nx+1) 0):=by rw [←hT1];simp only [go_sem]
 have T1_4:T1.get 4=some (.ptr (h.nx+1+1) 0):=by rw [←hT1];simp only [go_sem]
 clear hT1
 refine callK_of (mcopyC hS.toNb (hm2.fr f3) fun j hj=>ktop j (by omega)) ?_
 rintro r g4 ⟨⟨rv,K',rfl,kl,ko,hz⟩,f4⟩
 have n4:=f4.nx
 have f14:=f13.trans f4
 have s1:=(f4.get _ (by omega)).trans r1
 have s2:=(f4.get _ (by omega)).trans r2
 have s3:=(f4.get _ (by omega)).trans r3
 obtain ⟨orv,srv⟩:=hz.one
 have mrv:=oneM orv
 have crv:=cells1 orv
 have hz1:=hz.col eyW (K':=fun j=>if j=g4.nx then 9 else K' j) fun j hj _=>if_neg (by omega)
 have ko1:∀j,g4.nx+1≤j→(fun j=>if j=g4.nx then 9 else K' j) j=0:=fun j hj=>(if_neg (by omega)).trans (ko j (by omega))
 have ke1:(fun j=>if j=g4.nx then 9 else K' j) g4.nx=9:=if_pos rfl
 have kx1:(fun j=>if j=g4.nx then 9 else K' j) (h.nx+1+1)=9:=(if_neg (by omega)).trans ((kl _ (by omega)).trans kbx)
 generalize (fun j=>if j=g4.nx then 9 else K' j)=K1 at hz1 ko1 ke1 kx1
 have lrv:=Sl.len (P:=Tryz.prog) (e:=84) (hz.sls eyW (K2:=fun _=>0) (E2:=fun _ _=>True) (fun _ _ _ _ _=>rfl) fun _ _ _=>trivial) Tryz.underlying41
 have ff:Fr g4 ((g4.new (.cells [.int .i64 0,.nilsl] true false)).put g4.nx (.cells [.int .i64 m.own,rv] true false)):=(Fr.new _ _).put _ (Nat.le_refl _)
 have w4:((g4.new (.cells [.int .i64 0,.nilsl] true false)).put g4.nx (.cells [.int .i64 m.own,rv] true false)).get g4.nx=some (.cells [.int .i64 m.own,rv] true false):=AH.get_put_eq rfl
 have n5:((g4.new (.cells [.int .i64 0,.nilsl] true false)).put g4.nx (.cells [.int .i64 m.own,rv] true false)).nx=g4.nx+1:=rfl
 simp (maxSteps:=9^9) -dsimp (disch:=repeat first|rw [nxn]|rw [nxp]|omega) only [go_sem,T1_2,T1_3,T1_4,r2,s1,s2,ow,mw,orv,mrv,crv]
 generalize (g4.new (.cells [.int .i64 0,.nilsl] true false)).put g4.nx (.cells [.int .i64 m.own,rv] true false)=g5 at ff w4 n5 ⊢
 refine callK_of (findRC hS.toMz fo (((hm2.fr f3).fr f4).fr ff)) ?_
 rintro r g6 ⟨rfl,f6⟩
 have n6:=f6.nx
 have f46:=ff.trans f6
 have f16:=f14.trans f46
 have u1:=(f46.get _ (by omega)).trans s1
 have u2:=(f46.get _ (by omega)).trans s2
 have u3:=(f46.get _ (by omega)).trans s3
 have u4:=(f6.get _ (by omega)).trans w4
 have hz6:=hz1.fr eyW f46
 have hile:=findR_le m.rows fo
 have hilt:(findR m.rows fo).2=true→(findR m.rows fo).1<m.rows.length:=fun hh=>by
  simp only [findR,Bool.and_eq_true,decide_eq_true_eq] at hh
  exact hh.1
 cases his:(findR m.rows fo).2
 case false =>
  simp (maxSteps:=9^9) -dsimp (disch:=repeat first|rw [nxn]|rw [nxp]|omega) only [go_sem,T1_2,T1_3,T1_4,u2,his,bldM0,u3]
  exact bad _ _ (f16.put _ (by omega))
 have hlt:=hilt his
 have hzi:=fun id o n c hv=>hz6.id eyW (id:=id) (o:=o) (n:=n) (c:=c) hv
 obtain ⟨css,a2,a3,a4,a5,a6⟩:=hz6
 have hcl:css.flatten.length=m.rows.length*2:=by rw [flz (oy_len eyW a3 a4),a3]
 simp (maxSteps:=9^9) -dsimp (disch:=repeat first|rw [nxn]|rw [nxp]|omega) only [go_sem,T1_2,T1_3,T1_4,u1,u2,u4,ow,mw,lw,orv,mrv,his]
 generalize (findR m.rows fo).1=i at *
 refine callK_of (delRwC hS.toNi a2 hcl hlt hl (oy_one eyW a3 a4) (by omega)) ?_
 rintro r g8 ⟨id,rfl,b2,b3,b4,b5⟩
 have hK2:∀j,j<g6.nx→(fun j=>if j=id then 1 else K1 j) j=K1 j:=fun j hj=>if_neg (by omega)
 have hK3:(fun j=>if j=id then 1 else K1 j) id=1:=if_pos rfl
 generalize (fun j=>if j=id then 1 else K1 j)=K2 at hK2 hK3
 have hgk:∀j,j<g6.nx→K1 j=0∨K1 j=5∨K1 j=9→g8.get j=g6.get j:=fun j hj hk=>b5 j hj fun id' o n c hv=>by
  have:=(hzi id' o n c hv).2.2.1
  intro hh
  subst hh
  omega
 have hz8:=Oy.del eyW (E:=Wy) (h:=g6) (K:=K1) (K':=K2) b2 (fun id' o n c hh=>by cases hh;rfl) b3 a3 a4 a6 hlt b4 (fun j hj hk=>hgk j hj (by omega)) hK2 hK3
 have x3:=(b5 (h.nx+1+1) (by omega) fun id' o n c hv=>by have:=(hzi id' o n c hv).1;omega).trans u3
 have x4:=(hgk g4.nx (by omega) (.inr (.inr ke1))).trans u4
 have hz9:Oy 2 1 Wy g3.nx K2 ((g8.put g4.nx (.cells [.int .i64 m.own,.sl id 0 (m.rows.length-1) 2 none] true false)).put (h.nx+1+1) (.cells [.int .i64 m.own,.sl id 0 (m.rows.length-1) 2 none] true false)) (.sl id 0 (m.rows.length-1) 2 none) (m.rows.take i++m.rows.drop (i+1)):=hz8.kc eyW ⟨Nat.le_refl _,fun j hj hk=>(AH.get_put_ne (fun hh=>by subst hh;rw [hK2 _ (by omega),kx1] at hk;omega)).trans (AH.get_put_ne (fun hh=>by subst hh;rw [hK2 _ (by omega),ke1] at hk;omega))⟩
 simp (maxSteps:=9^9) -dsimp (disch:=repeat first|rw [nxn]|rw [nxp]|omega) only [go_sem,T1_2,T1_3,T1_4,x3,x4]
 have hml:(m.rows.take i++m.rows.drop (i+1)).length≤B+1:=by have:=hsz.1;simp;omega
 refine ⟨⟨⟨m.own,m.rows.take i++m.rows.drop (i+1)⟩,_,_,rfl,oy_ma hz9 (fun j hj=>top j (by omega)) (by omega),hml,fun r hr=>?_⟩,(⟨by omega,fun j hj=>(b5 j (by omega) fun id' o n c hv=>by have:=(hzi id' o n c hv).1;omega).trans (f16.get _ hj)⟩:Fr h g8).put _ (by omega) |>.put _ (by omega)⟩
 rcases List.mem_append.1 hr with hr | hr
 ·exact Nat.le_succ_of_le (hsz.2 r (List.mem_of_mem_take hr))
 ·exact Nat.le_succ_of_le (hsz.2 r (List.mem_of_mem_drop hr))
end
end Go.Proofs.YtihigekgnnoejaaGreatDoor.mdl
end