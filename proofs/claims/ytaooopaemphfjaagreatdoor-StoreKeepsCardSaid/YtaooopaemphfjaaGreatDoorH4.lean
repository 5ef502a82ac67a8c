/- Texts joined: WLc, WLd, WLe, WLf, WLg, WLo. -/
import Derived.Test.YtaooopaemphfjaaGreatDoorH3
import Derived.Test.YtaooopaemphfjaaGreatDoorAb6
set_option maxRecDepth 100000
set_option linter.unusedVariables false
set_option linter.unusedSimpArgs false
set_option maxHeartbeats 16000000
section
namespace Go.Proofs.YtaooopaemphfjaaGreatDoor.tre
open Go Go.Abs Go.Abs.Wal Go.Proofs
section
variable {S : Sums}
theorem bo1 {n0:Nat} {h:AH} {c:Option Nat} {b:Nat} (hg:h.get n0=some (.cells [.int .u8 (b:Int)] true false)) (hlt:n0<h.nx) (hc:c=none∨c=some 1):Bo n0 h (.sl n0 0 1 1 c) [b] :=
 ⟨n0,c,_,false,rfl,hg,hlt,Nat.le_refl _,rfl,Nat.le_refl _,hc⟩
theorem p128:∀k:Nat,k<3→128^(3-k)=128*128^(3-(k+1)):=by decide
theorem numC (hS:Wl S) {h:AH} {n:Nat} (hn:n<2097152):RnC Tryz.prog S 65 [.nilsl,.int .u64 (n:Nat)] h fun r h'=>∃l,Bn h.nx h' r l∧l.length≤3∧Fr h h':=by
 refine RnC.enter' Tryz.f65 _ 28 [.tmp 4] (hS.nw _ _ _ (by simp)) bd65 Tryz.func65 rfl rfl rfl ?_
 simp -dsimp (disch:=(repeat first | rw [nxn] | rw [nxp]);try omega) only [go_sem,evLen]
 refine loopK_of (RnL.rounds (Q:=fun ex u=>ex=.exit 0∧u.d=[]∧Fr h u.h∧u.t.get 0=some .nilsl∧∃v l,u.t.get 5=some v∧Bo h.nx u.h v l∧1≤l.length∧l.length≤3)
  (fun m u=>u.d=[]∧Fr h u.h∧u.t.get 0=some .nilsl∧∃(v:AV) (l:List Nat) (x:Nat),u.t.get 5=some v∧Bn h.nx u.h v l∧u.t.get 1=some (.int .u64 (x:Nat))∧x<128^(3-l.length)∧l.length<3∧m=3-l.length) ?_ 3 ?_) ?_
 ·rintro m ⟨t,g,d⟩ ⟨e2,e1,g0,v,l,x,g5,hb,g1,hx,hl,rfl⟩
  dsimp only at e1 e2 g0 g5 hb g1
  subst e2
  have hx2:x<2097152:=by
   have:128^(3-l.length)≤128^3:=Nat.pow_le_pow_right (by decide) (by omega)
   omega
  have q1:=fun h t=>and127 h t x (by omega)
  have q2:=fun h=>cv8 h (x%128)
  obtain ⟨y,q3⟩:∃y:Nat,∀h t,binA Tryz.prog h .or t (.int .u8 ((x%128%256:Nat):Int)) (.int .u8 128)=some (.int .u8 (y:Nat)):=by
   obtain ⟨y,hy⟩:=or128 g 0 (x%128%256)
   exact ⟨y,fun h t=>(by rw [←hy];rfl)⟩
  have hne:∀id off n sz c,v=.sl id off n sz c→id<g.nx:=fun id off n sz c hh=>by
   rcases hb with ⟨hv,_⟩ | ⟨id',c',cs,tx,hv,_,hlt,_⟩
   ·rw [hv] at hh;cases hh
   ·rw [hv] at hh;cases hh;exact hlt
  obtain ⟨v2,h2,ha,hf,hb2⟩:=Bn.app (h0:=h) (h:=g.new (.cells [.int .u8 (y:Int)] true false)) (x:=.sl g.nx 0 1 1 (some 1)) (m:=[y]) (hb.fr (Fr.new _ _)) (Bo.bs (bo1 (AH.get_new_eq rfl) (Nat.lt_succ_self _) (.inr rfl))) (e1.news _) (by simp;omega)
  have hlen:(l++[y]).length=l.length+1:=by simp
  have ov:=(bsLn hb2.bs).2.2
  have hb3:Bo h.nx h2 v2 (l++[y]):=by
   rcases hb2 with ⟨_,h9⟩ | h9
   ·simp at h9
   ·exact h9
  by_cases c:((x/128:Nat):Int)=0
  ·simp -dsimp (disch:=(repeat first | rw [nxn] | rw [nxp]);try omega) only [go_sem,evLen,g0,g5,g1,q1,q2,q3,shr7,ha,ov,c]
   exact ⟨trivial,trivial,hf,trivial,v2,_,rfl,hb3,by omega,by omega⟩
  ·simp -dsimp (disch:=(repeat first | rw [nxn] | rw [nxp]);try omega) only [go_sem,evLen,g0,g5,g1,q1,q2,q3,shr7,ha,ov,c]
   have hp:=p128 l.length hl
   have hx3:x/128<128^(3-(l.length+1)):=by
    rw [Nat.div_lt_iff_lt_mul (by decide),Nat.mul_comm,←hp];exact hx
   have hl3:l.length+1<3:=by
    refine Decidable.byContradiction fun hh=>?_
    have:3-(l.length+1)=0:=by omega
    rw [this] at hx3
    omega
   refine ⟨3-(l.length+1),by omega,trivial,hf,trivial,v2,l++[y],x/128,rfl,.inr hb3,rfl,by rw [hlen];exact hx3,by rw [hlen];exact hl3,by rw [hlen]⟩
 ·simp -dsimp (disch:=(repeat first | rw [nxn] | rw [nxp]);try omega) only [go_sem,evLen]
  exact ⟨trivial,Fr.refl _,trivial,.nilsl,[],n,rfl,.inl ⟨rfl,rfl⟩,rfl,hn,by decide,rfl⟩
 ·rintro ex ⟨t,g,d⟩ ⟨rfl,rfl,e1,g0,v,l,g5,hb,hl⟩
  dsimp only at e1 g0 g5 hb
  obtain ⟨id,c,cs,tx,rfl,h2,h3,h4,h5,h6,h7⟩:=hb
  obtain ⟨a,r,rfl⟩:∃a r,l=a::r:=by
   cases l with
   | nil=>simp at hl
   | cons a r=>exact ⟨a,r,rfl⟩
  obtain ⟨x,cr,rfl⟩:∃x cr,cs=x::cr:=by
   cases cs with
   | nil=>simp at h6
   | cons x cr=>exact ⟨x,cr,rfl⟩
  have hxa:x=.int .u8 (a:Int)∧cr.take r.length=byC r:=by
   simpa [byC] using h5
  obtain ⟨rfl,hcr⟩:=hxa
  obtain ⟨y,q3⟩:∃y:Nat,∀h t,binA Tryz.prog h .and t (.int .u8 (a:Int)) (.int .u8 127)=some (.int .u8 (y:Nat)):=by
   obtain ⟨y,hy⟩:=and7 g 0 a
   exact ⟨y,fun h t=>(by rw [←hy];rfl)⟩
  have hz:¬r.length+1=0:=by omega
  simp -dsimp (disch:=(repeat first | rw [nxn] | rw [nxp]);try omega) only [go_sem,evLen,g0,g5,h2,q3]
  have hb2:Bo h.nx (g.put id (.cells (.int .u8 (y:Int)::cr) true tx)) (.sl id 0 (r.length+1) 1 c) (y::r):=⟨id,c,_,tx,rfl,AH.get_put_eq rfl,h3,h4,by simpa [byC] using hcr,by simpa using h6,by simpa using h7⟩
  refine callK_of (revC hS hb2 (by simpa using hl)) ?_
  rintro r1 g1 ⟨rfl,l',hb3,hl3,hn3,ho3⟩
  have f1:Fr h g1:=⟨Nat.le_trans e1.nx hn3,fun j hj=>(ho3 j hj).trans ((AH.get_put_ne (by omega)).trans (e1.get j hj))⟩
  refine callK_of (cloneC hS.toSt (h:=g1) (l:=[]) (.inl ⟨rfl,rfl⟩) (by simp)) ?_
  rintro r2 g2 ⟨hb4,f2⟩
  have hl4:l'.length≤3:=by rw [hl3];simpa using hl.2
  obtain ⟨v5,h5',ha5,hf5,hb5⟩:=Bn.app (h0:=g1) hb4 (hb3.bs.fr f2) f2 (by simp;omega)
  have ov2:=(bsLn hb4.bs).2.2
  have ov5:=(bsLn hb5.bs).2.2
  simp -dsimp (disch:=(repeat first | rw [nxn] | rw [nxp]);try omega) only [go_sem,evLen,g0,g5,ha5,ov2,ov5]
  refine ⟨l',?_,?_,f1.trans hf5⟩
  ·simp only [List.nil_append] at hb5
   rcases hb5 with hh | ⟨id',c',cs',tx',q1,q2,q3',q4,q5⟩
   ·exact .inl hh
   ·exact .inr ⟨id',c',cs',tx',q1,q2,q3',Nat.le_trans f1.nx q4,q5⟩
  ·exact hl4
theorem pieceC (hS:Wl S) {h:AH} {s:List Nat} (hs:s.length≤1048576):RnC Tryz.prog S 114 [.nilsl,.str s] h fun r h'=>(∃v,r=.tup [v,.int .i64 0]∧oneA v=true)∧Fr h h':=by
 refine RnC.enter' Tryz.f114 _ 16 [.tmp 4,.tmp 5] (hS.nw _ _ _ (by simp)) bd114 Tryz.func114 rfl rfl rfl ?_
 have c1:¬(1048576:Int)<(s.length:Nat):=by omega
 have ls:∀g:AH,evLen Tryz.prog g #[9] (.str s)=some (.int .i64 (s.length:Nat)):=fun g=>by simp [evLen,Tryz.underlying9]
 simp -dsimp (disch:=(repeat first | rw [nxn] | rw [nxp]);try omega) only [go_sem,c1,ls,cv64]
 refine callK_of (numC hS (n:=s.length) (by omega)) ?_
 rintro r h2 ⟨l,hb,hl,hf⟩
 have ob:=(bsLn hb.bs).2.2
 obtain ⟨s1,s2⟩:=str_first h2 s
 obtain ⟨v3,h3,ha,hf3,hb3⟩:=Bn.appG (h0:=h) (d:=.string) Tryz.underlying9 rfl hb s1 s2 hf (by omega)
 have ob3:=(bsLn hb3.bs).2.2
 simp -dsimp (disch:=(repeat first | rw [nxn] | rw [nxp]);try omega) only [go_sem,ha,ob,ob3]
 exact ⟨⟨v3,rfl,ob3⟩,hf3⟩
theorem sh32 (h:AH) (t:TypeId) (k:IntKind) (n:Nat):binA Tryz.prog h .shr t (.int .u32 (n:Nat)) (.int k 24)=some (.int .u32 ((n/16777216:Nat):Int))∧binA Tryz.prog h .shr t (.int .u32 (n:Nat)) (.int k 16)=some (.int .u32 ((n/65536:Nat):Int))∧binA Tryz.prog h .shr t (.int .u32 (n:Nat)) (.int k 8)=some (.int .u32 ((n/256:Nat):Int)):=by
 refine ⟨?_,?_,?_⟩
 ·rw [binA_shr,if_neg (by decide)]
  show some (AV.int .u32 ((n:Int).fdiv 16777216))=_
  rw [Int.fdiv_eq_ediv_of_nonneg _ (by decide)]
  congr 2
 ·rw [binA_shr,if_neg (by decide)]
  show some (AV.int .u32 ((n:Int).fdiv 65536))=_
  rw [Int.fdiv_eq_ediv_of_nonneg _ (by decide)]
  congr 2
 ·rw [binA_shr,if_neg (by decide)]
  show some (AV.int .u32 ((n:Int).fdiv 256))=_
  rw [Int.fdiv_eq_ediv_of_nonneg _ (by decide)]
  congr 2
theorem cv328 (h:AH) (n:Nat):evConvert Tryz.prog h 81 5 (.int .u32 (n:Nat))=some (.val (.int .u8 ((n%256:Nat):Int)) h):=by
 have:IntKind.u8.wrap ((n:Nat):Int)=((n%256:Nat):Int):=by
  show ((n:Nat):Int)%256=_
  omega
 simp only [evConvert,Tryz.underlying81,Tryz.underlying5,val?,this]
theorem fourC (hS:Wl S) {h:AH} {n:Nat}:RnC Tryz.prog S 116 [.int .u32 (n:Nat)] h fun r h'=>Bn h.nx h' r (fourB n)∧Fr h h':=by
 refine RnC.enter' Tryz.f116 _ 15 [.tmp 2] (hS.nw _ _ _ (by simp)) bd116 Tryz.func116 rfl rfl rfl ?_
 have q1:=fun h t k=>(sh32 h t k n).1
 have q2:=fun h t k=>(sh32 h t k n).2.1
 have q3:=fun h t k=>(sh32 h t k n).2.2
 simp (maxSteps:=1000000) -dsimp (disch:=(repeat first | rw [nxn] | rw [nxp]);try omega) only [go_sem,evLen,q1,q2,q3,cv328]
 exact ⟨.inr ⟨h.nx,_,_,_,rfl,AH.get_new_eq rfl,Nat.lt_succ_self _,Nat.le_refl _,by rfl,by simp [fourB],.inr rfl⟩,Fr.new _ _⟩
theorem joinC (hS:Wl S) {h:AH} {id:Nat} {c:Option Nat} {o t:Bool} {x y:AV} {l m:List Nat} (hg:h.get id=some (.cells [x,y] o t)) (hid:id<h.nx) (hx:Bs h x l) (hy:Bs h y m) (hl:l.length+m.length≤1073741824) :
  RnC Tryz.prog S 115 [.sl id 0 2 1 c] h fun r h'=>Bn h.nx h' r (l++m)∧Fr h h':=by
 refine RnC.enter' Tryz.f115 _ 5 [.tmp 2] (hS.nw _ _ _ (by simp)) bd115 Tryz.func115 rfl rfl rfl ?_
 simp -dsimp (disch:=(repeat first | rw [nxn] | rw [nxp]);try omega) only [go_sem]
 refine callK_of (concatC hS.toSt hg hid hx hy hl) ?_
 rintro r h2 ⟨hb,hf⟩
 exact ⟨hb,hf⟩
theorem cv32 (h:AH) (n:Nat) (hn:n<4294967296):evConvert Tryz.prog h 3 81 (.int .i64 (n:Nat))=some (.val (.int .u32 (n:Nat)) h):=by
 have:IntKind.u32.wrap ((n:Nat):Int)=((n:Nat):Int):=by
  show ((n:Nat):Int)%4294967296=_
  omega
 simp only [evConvert,Tryz.underlying3,Tryz.underlying81,val?,this]
theorem cvStr (h:AH) (s:List Nat):evConvert Tryz.prog h 9 87 (.str s)=some (.val (.sl h.nx 0 s.length 1 none) (h.new (.cells (byC s) true true))):=by
 simp only [evConvert,Tryz.underlying9,Tryz.underlying87,Tryz.underlying5,newCells,byC]
theorem bsStr (h:AH) (s:List Nat):Bs (h.new (.cells (byC s) true true)) (.sl h.nx 0 s.length 1 none) s :=
 .inr ⟨h.nx,0,none,byC s,true,true,rfl,AH.get_new_eq rfl,Nat.lt_succ_self _,by rw [byC_length];omega,fun k hk=>(by cases hk),by rw [List.drop_zero,←byC_length s,List.take_length]⟩
theorem frameC (hS:Wl S) {h:AH} {s:List Nat} (hs:s.length≤1048576) (hb:∀b∈s,b<256):RnC Tryz.prog S 69 [.str s] h fun r h'=>∃v,r=.tup [v,.int .i64 0]∧Bn h.nx h' v (frm s)∧Fr h h':=by
 refine RnC.enter' Tryz.f69 _ 29 [.tmp 2,.tmp 3] (hS.nw _ _ _ (by simp)) bd69 Tryz.func69 rfl rfl rfl ?_
 have ls:∀g:AH,evLen Tryz.prog g #[9] (.str s)=some (.int .i64 (s.length:Nat)):=fun g=>by simp [evLen,Tryz.underlying9]
 simp -dsimp (disch:=(repeat first | rw [nxn] | rw [nxp]);try omega) only [go_sem]
 refine callK_of (pieceC hS hs) ?_
 rintro r h2 ⟨⟨v,rfl,ov⟩,f2⟩
 have q1:=fun h=>cv32 h s.length (by omega)
 simp -dsimp (disch:=(repeat first | rw [nxn] | rw [nxp]);try omega) only [go_sem,ov,ls,q1]
 refine callK_of (fourC hS) ?_
 rintro r h3 ⟨hb3,f3⟩
 have o3:=(bsLn hb3.bs).2.2
 have c3:=bsCells hb3.bs
 have f4:Fr h3 (h3.new (.cells (byC s) true true)):=Fr.new _ _
 have f5:Fr h3 ((h3.new (.cells (byC s) true true)).new (.cells [r,.sl h3.nx 0 s.length 1 none] true false)):=f4.news _
 simp -dsimp (disch:=(repeat first | rw [nxn] | rw [nxp]);try omega) only [go_sem,o3,c3,cvStr]
 refine callK_of (joinC hS (id:=h3.nx+1) (x:=r) (y:=.sl h3.nx 0 s.length 1 none) (l:=fourB s.length) (m:=s) (AH.get_new_eq rfl) (Nat.lt_succ_self _) (hb3.bs.fr f5) ((bsStr h3 s).fr (Fr.new _ _)) (by simp [fourB];omega)) ?_
 rintro r6 h6 ⟨hb6,f6⟩
 have o6:=(bsLn hb6.bs).2.2
 have c6:=bsCells hb6.bs
 have h4:∀n,∀b∈fourB n,b<256:=fun n b hb=>by
  simp only [fourB,List.mem_cons,List.not_mem_nil,or_false] at hb
  omega
 refine callK_of (sumC hS hb6.bs (fun b hm=>by
  rcases List.mem_append.1 hm with h1 | h1
  ·exact h4 _ b h1
  ·exact hb b h1) (by simp [fourB];omega)) ?_
 rintro r7 h7 ⟨rfl,f7⟩
 refine callK_of (fourC hS) ?_
 rintro r8 h8 ⟨hb8,f8⟩
 have o8:=(bsLn hb8.bs).2.2
 have c8:=bsCells hb8.bs
 simp -dsimp (disch:=(repeat first | rw [nxn] | rw [nxp]);try omega) only [go_sem,o6,c6,o8,c8]
 refine callK_of (joinC hS (id:=h8.nx) (x:=r6) (y:=r8) (l:=fourB s.length++s) (m:=fourB (sum (fourB s.length++s))) (AH.get_new_eq rfl) (Nat.lt_succ_self _) (hb6.bs.fr ((f7.trans f8).news _)) (hb8.bs.fr (Fr.new _ _)) (by simp [fourB];omega)) ?_
 rintro r9 h9 ⟨hb9,f9⟩
 have fa:Fr h h8:=((f2.trans f3).trans f5).trans ((f6.trans f7).trans f8)
 refine ⟨r9,rfl,?_,(fa.news _).trans f9⟩
 have e:fourB s.length++s++fourB (sum (fourB s.length++s))=frm s:=rfl
 rw [e] at hb9
 rcases hb9 with hh | ⟨id',c',cs',tx',q1,q2,q3',q4,q5⟩
 ·exact .inl hh
 ·exact .inr ⟨id',c',cs',tx',q1,q2,q3',Nat.le_trans (fa.news _).nx q4,q5⟩
end
theorem Tx.gr {K K':Nat→Nat} {h h':AH} {v:AV} {l:List (List Nat)} (hb:Tx K h v l) (g:Gr K h K' h'):Tx K' h' v l:=by
 obtain ⟨hb,hk⟩:=hb
 rcases hb with h1 | ⟨id,off,c,cs,o,t,h1,h2,h3,h4⟩
 ·exact ⟨.inl h1,fun id off n z c hh=>by rw [h1.1] at hh;cases hh⟩
 ·have hk0:=hk _ _ _ _ _ h1
  refine ⟨.inr ⟨id,off,c,cs,o,t,h1,(g.get id h3 hk0).1.trans h2,Nat.lt_of_lt_of_le h3 g.nx,h4⟩,fun id' off' n z c' hh=>?_⟩
  rw [h1] at hh
  cases hh
  exact (g.get _ h3 hk0).2
theorem okP_tmp {p:Pth} (h:checkS p=0):okP (tmpS++p)=true:=by
 have:tempedS (tmpS++p)=true:=by
  unfold tempedS preS
  have e1:(tmpS++p).take tmpS.length=tmpS:=by simp
  have e2:(tmpS++p).drop 5=p:=by simp [tmpS]
  rw [e1,e2,h]
  rfl
 unfold okP
 rw [this,Bool.or_true]
theorem okP_chk {p:Pth} (h:checkS p=0):okP p=true:=by
 unfold okP
 rw [h]
 rfl
theorem chk_len {p:Pth} (h:checkS p=0):p.length≤64:=by
 unfold checkS at h
 split at h
 ·cases h
 ·omega
theorem frs_take_succ {l:List (List Nat)} {i:Nat} {s:List Nat} (hi:l[i]? = some s):frs (l.take (i+1))=frs (l.take i)++frm s:=by
 have:l.take (i+1)=l.take i++[s]:=by rw [List.take_add_one,hi];rfl
 rw [this,frs_app]
 simp [frs]
theorem frs_take_le {l:List (List Nat)} (i:Nat):(frs (l.take i)).length≤(frs l).length:=by
 have:frs l=frs (l.take i)++frs (l.drop i):=by rw [←frs_app,List.take_append_drop]
 rw [this,List.length_append]
 omega
theorem frs_byt:∀ {l:List (List Nat)},(∀s∈l,∀b∈s,b<256)→∀b∈frs l,b<256
 | [],_,b,hb=>by simp [frs] at hb
 | s::r,hl,b,hb=>by
  rcases List.mem_append.1 (show b∈frm s++frs r from hb) with h | h
  ·exact frm_byt (hl s (List.mem_cons_self ..)) b h
  ·exact frs_byt (fun x hx=>hl x (List.mem_cons_of_mem _ hx)) b h
section
variable {S : Sums}
theorem tempC (hS:Wl S) {h:AH} {s:Pth} (hs:checkS s=0):RnC Tryz.prog S 60 [.str s] h fun r h'=>r=.tup [.str (tmpS++s),.int .i64 0]∧Fr h h':=by
 refine RnC.enter' Tryz.f60 _ 12 [.tmp 2,.tmp 3] (hS.nw _ _ _ (by simp)) bd60 Tryz.func60 rfl rfl rfl ?_
 simp -dsimp (disch:=(repeat first | rw [nxn] | rw [nxp]);try omega) only [go_sem,evLen]
 refine callK_of (checkC hS.toSp) ?_
 rintro r h2 ⟨rfl,f2⟩
 have hl:=chk_len hs
 have add:∀(g:AH) (x:List Nat),x=tmpS→binA Tryz.prog g .add 9 (.str x) (.str s)=some (.str (tmpS++s)):=fun g x hx=>by
  subst hx
  have:¬(((tmpS.length+s.length:Nat):Int)>IntKind.i64.max):=by
   have h5:tmpS.length=5:=rfl
   have hm:IntKind.i64.max=9223372036854775807:=rfl
   rw [h5,hm];omega
  simp only [binA,strA,if_neg this]
 have tm:bytesOf { data:=#[46,116,109,112,47] }=tmpS:=by decide +kernel
 have add2:=fun g=>add g _ tm
 simp -dsimp (disch:=(repeat first | rw [nxn] | rw [nxp]);try omega) only [go_sem,evLen,hs,add2]
 exact ⟨trivial,f2⟩
theorem noteC (hS:Wl S) {h:AH} {L:Nat} {a b c d:AV} {t:Bool} {x:Nat} (hg:h.get L=some (.cells [.int .i64 0,a,b,c,d] true t)):RnC Tryz.prog S 68 [.ptr L 0,.int .i64 (x:Nat)] h fun v h'=>v=.int .i64 (x:Nat)∧h'=h.put L (.cells [.int .i64 (x:Nat),a,b,c,d] true t):=by
 refine RnC.enter' Tryz.f68 _ 15 [.tmp 4] (hS.nw _ _ _ (by simp)) bd68 Tryz.func68 rfl rfl rfl ?_
 simp -dsimp (disch:=(repeat first | rw [nxn] | rw [nxp]);try omega) only [go_sem,evLen,hg]
 exact ⟨trivial,trivial⟩
theorem framesC (hS:Wl S) {h:AH} {v:AV} {l:List (List Nat)} {K:Nat→Nat} (hv:Tx K h v l) (hs:∀s∈l,s.length≤1048576∧∀b∈s,b<256) (hl:(frs l).length≤1073741824) :
  RnC Tryz.prog S 67 [v] h fun r h'=>∃w,r=.tup [w,.int .i64 0]∧Bn h.nx h' w (frs l)∧Fr h h':=by
 refine RnC.enter' Tryz.f67 _ 28 [.tmp 2,.tmp 3] (hS.nw _ _ _ (by simp)) bd67 Tryz.func67 rfl rfl rfl ?_
 have ln:=fun g=>hv.len Tryz.underlying66 g
 have ov:=hv.1.one.1
 have hll:=frs_ge l
 simp -dsimp (disch:=(repeat first | rw [nxn] | rw [nxp]);try omega) only [go_sem,ln,ov]
 refine loopK_of (RnL.rounds (Q:=fun ex u=>ex=.exit 0∧u.d=[]∧Fr h u.h∧∃w,u.t.get 4=some w∧Bn h.nx u.h w (frs l))
  (fun m u=>u.d=[]∧Fr h u.h∧u.t.get 9=some v∧u.t.get 10=some (.int .i64 (l.length:Nat))∧∃(w:AV) (i:Nat),u.t.get 11=some (.int .i64 (i:Nat))∧u.t.get 4=some w∧Bn h.nx u.h w (frs (l.take i))∧i≤l.length∧m=l.length-i) ?_ l.length ?_) ?_
 ·rintro m ⟨t,g,d⟩ ⟨e2,e1,g9,g10,w,i,g11,g4,hw,hi,rfl⟩
  dsimp only at e1 e2 g9 g10 g11 g4 hw
  subst e2
  by_cases c1:(i:Int)<(l.length:Nat)
  ·have hil:i<l.length:=by omega
   obtain ⟨s,hsi⟩:∃s,l[i]? = some s:=⟨_,List.getElem?_eq_getElem hil⟩
   obtain ⟨id,off,c,cs,o,tx,rfl,hg,hid,hcs⟩:=Tx.get (hv.fr e1) hsi
   obtain ⟨hs1,hs2⟩:=hs s (List.mem_iff_getElem?.2 ⟨i,hsi⟩)
   simp -dsimp (disch:=(repeat first | rw [nxn] | rw [nxp]);try omega) only [go_sem,c1,g9,g10,g11,g4,hil,hg,hcs,Nat.mul_one]
   refine callK_of (frameC hS hs1 hs2) ?_
   rintro r h2 ⟨f,rfl,hb2,f2⟩
   have ow:=(bsLn hw.bs).2.2
   have of:=(bsLn hb2.bs).2.2
   have hts:=frs_take_succ hsi
   have htl:=frs_take_le (l:=l) (i+1)
   rw [hts] at htl
   obtain ⟨v3,h3,ha,f3,hb3⟩:=Bn.app (h0:=h) (hw.fr f2) hb2.bs (e1.trans f2) (by simp at htl;omega)
   have o3:=(bsLn hb3.bs).2.2
   simp -dsimp (disch:=(repeat first | rw [nxn] | rw [nxp]);try omega) only [go_sem,c1,g9,g10,g11,g4,ow,of,ha,o3]
   exact ⟨l.length-(i+1),by omega,trivial,f3,trivial,trivial,v3,i+1,rfl,rfl,by rw [hts];exact hb3,by omega,rfl⟩
  ·simp -dsimp (disch:=(repeat first | rw [nxn] | rw [nxp]);try omega) only [go_sem,c1,g9,g10,g11,g4]
   have:l.take i=l:=List.take_of_length_le (by omega)
   rw [this] at hw
   exact ⟨trivial,trivial,e1,w,rfl,hw⟩
 ·simp -dsimp (disch:=(repeat first | rw [nxn] | rw [nxp]);try omega) only [go_sem]
  exact ⟨trivial,Fr.refl _,trivial,trivial,.nilsl,0,rfl,rfl,.inl ⟨rfl,rfl⟩,Nat.zero_le _,rfl⟩
 ·rintro ex ⟨t,g,d⟩ ⟨rfl,rfl,e1,w,g4,hw⟩
  dsimp only at e1 g4 hw
  have ow:=(bsLn hw.bs).2.2
  simp -dsimp (disch:=(repeat first | rw [nxn] | rw [nxp]);try omega) only [go_sem,g4,ow]
  exact ⟨w,rfl,hw,e1⟩
end
theorem Bm.sm {n c:Nat} {T:TT} (h:Bm n c T) (hn:n≤16384) (hc:c<1152921504606846976):Sm T:=by
 have:=h.now;have:=h.sn;have:=h.clock
 exact ⟨by omega,by omega,by omega,by omega⟩
def Lo (h:AH) (L p:Nat) (path:Pth) (l:Lg):Prop:=h.get L=some (.cells [.int .i64 (l.e:Nat),.ptr p 0,.str path,.int .i64 (l.size:Nat),.int .i64 (l.n:Nat)] true false)
theorem Lo.gr {K K':Nat→Nat} {h h':AH} {L p:Nat} {path:Pth} {l:Lg} (hL:Lo h L p path l) (g:Gr K h K' h') (hl:L<h.nx) (hk:K L=0):Lo h' L p path l:=(g.get L hl hk).1.trans hL
structure GrX (L:Nat) (K:Nat→Nat) (h:AH) (K':Nat→Nat) (h':AH):Prop where
 nx:h.nx≤h'.nx
 get:∀j,j<h.nx→K j=0→(j≠L→h'.get j=h.get j)∧K' j=0
theorem Gr.x {K K':Nat→Nat} {h h':AH} (g:Gr K h K' h') (L:Nat):GrX L K h K' h':=⟨g.nx,fun j hj hk=>⟨fun _=>(g.get j hj hk).1,(g.get j hj hk).2⟩⟩
theorem GrX.refl (L:Nat) (K:Nat→Nat) (h:AH):GrX L K h K h:=(Gr.refl K h).x L
theorem GrX.trans {L:Nat} {K K' K'':Nat→Nat} {h h' h'':AH} (h1:GrX L K h K' h') (h2:GrX L K' h' K'' h''):GrX L K h K'' h'' :=
 ⟨Nat.le_trans h1.nx h2.nx,fun j hj hk=>by
  obtain ⟨e1,e2⟩:=h1.get j hj hk
  obtain ⟨e3,e4⟩:=h2.get j (Nat.lt_of_lt_of_le hj h1.nx) e2
  exact ⟨fun hne=>(e3 hne).trans (e1 hne),e4⟩⟩
theorem GrX.put {L:Nat} {K K':Nat→Nat} {h h':AH} (h1:GrX L K h K' h') (o:AO):GrX L K h K' (h'.put L o) :=
 ⟨h1.nx,fun j hj hk=>⟨fun hne=>(AH.get_put_ne hne).trans ((h1.get j hj hk).1 hne),(h1.get j hj hk).2⟩⟩
theorem GrX.gr {L:Nat} {K K':Nat→Nat} {h h':AH} (h1:GrX L K h K' h') (hL:h.nx≤L):Gr K h K' h' :=
 ⟨h1.nx,fun j hj hk=>⟨(h1.get j hj hk).1 (by omega),(h1.get j hj hk).2⟩⟩
theorem GrX.fr {L:Nat} {K K':Nat→Nat} {h0 h h':AH} (g:GrX L K h K' h') (hf:Fr h0 h) (hL:h0.nx≤L) (hk:∀j,j<h0.nx→K j=0):Fr h0 h'∧∀j,j<h0.nx→K' j=0 :=
 ⟨⟨Nat.le_trans hf.nx g.nx,fun j hj=>((g.get j (Nat.lt_of_lt_of_le hj hf.nx) (hk j hj)).1 (by omega)).trans (hf.get j hj)⟩,fun j hj=>(g.get j (Nat.lt_of_lt_of_le hj hf.nx) (hk j hj)).2⟩
theorem Gr.fr {K K':Nat→Nat} {h0 h h':AH} (g:Gr K h K' h') (hf:Fr h0 h) (hk:∀j,j<h0.nx→K j=0):Fr h0 h'∧∀j,j<h0.nx→K' j=0:=(g.x h0.nx).fr hf (Nat.le_refl _) hk
def ResX (L:Nat) (K:Nat→Nat) (p:Nat) (h h':AH) (T':TT):Prop:=∃K' nm sm chv ρ,Tr K' p nm sm chv ρ h' T'∧GrX L K h K' h'
theorem Res.trans {K K':Nat→Nat} {p:Nat} {h h' h'':AH} {T:TT} (g:Gr K h K' h') (r:Res K' p h' h'' T):Res K p h h'' T:=by
 obtain ⟨K2,nm,sm,chv,ρ,hT,g2⟩:=r
 exact ⟨K2,nm,sm,chv,ρ,hT,g.trans g2⟩
theorem Tr.putL {K p nm sm chv ρ h T} (hT:Tr K p nm sm chv ρ h T) {L:Nat} (hk:K L=0) (o:AO):Tr K p nm sm chv ρ (h.put L o) T:=hT.mono (fun j hj=>AH.get_put_ne (fun hh=>hj (hh▸hk))) (Nat.le_refl _)
section
variable {S : Sums}
theorem stepsC (hS:Wl S) {K:Nat→Nat} {p:Nat} {h0:AH} {nb cb:Nat} {cl:List AV} {fs:List (TT→Nat×TT)} {id:Nat} {c:Option Nat} {o tx:Bool} (hg:h0.get id=some (.cells cl o tx)) (hid:id<h0.nx) (kid:K id=0) (hlen:cl.length=fs.length) (hl:fs.length≤16)
  (hbm:∀f∈fs,∀n c T,Bm n c T→Bm (n+1) (c+1) (f T).2)
  (hst:∀(i:Nat) f v,fs[i]? = some f→cl[i]? = some v→∃fn b cs,v=.func (.func fn) b cs∧bodied Tryz.prog fn=true∧∀h T,Res K p h0 h T→Bm (nb+fs.length) (cb+fs.length) T→RnC Tryz.prog S fn (b++cs) h fun r h'=>r=.int .i64 ((f T).1:Nat)∧Res K p h0 h' (f T).2)
  {T:TT} (hT:Res K p h0 h0 T) (hb:Bm nb cb T) :
  RnC Tryz.prog S 90 [.sl id 0 fs.length 1 c] h0 fun r h'=>r=.int .i64 ((stepsT fs T).1:Nat)∧Res K p h0 h' (stepsT fs T).2:=by
 refine RnC.enter' Tryz.f90 _ 18 [.tmp 2] (hS.nw _ _ _ (by simp)) bd90 Tryz.func90 rfl rfl rfl ?_
 simp -dsimp (disch:=(repeat first | rw [nxn] | rw [nxp]);try omega) only [go_sem,evLen]
 refine loopK_of (RnL.rounds (Q:=fun ex u=>u.d=[]∧Res K p h0 u.h (stepsT fs T).2∧(ex=.exit 0∧(stepsT fs T).1=0∨ex=.ret∧u.t.get 2=some (.int .i64 ((stepsT fs T).1:Nat))))
  (fun m u=>u.d=[]∧u.t.get 6=some (.sl id 0 fs.length 1 c)∧u.t.get 7=some (.int .i64 (fs.length:Nat))∧∃(i:Nat) (Ti:TT),u.t.get 8=some (.int .i64 (i:Nat))∧Res K p h0 u.h Ti∧Bm (nb+i) (cb+i) Ti∧stepsT fs T=stepsT (fs.drop i) Ti∧i≤fs.length∧m=fs.length-i) ?_ fs.length ?_) ?_
 ·rintro m ⟨t,g,d⟩ ⟨e2,g6,g7,i,Ti,g8,hr,hbi,he,hi,rfl⟩
  dsimp only at e2 g6 g7 g8 hr
  subst e2
  by_cases c1:(i:Int)<(fs.length:Nat)
  ·have hil:i<fs.length:=by omega
   obtain ⟨f,hf⟩:∃f,fs[i]? = some f:=⟨_,List.getElem?_eq_getElem hil⟩
   obtain ⟨v,hv⟩:∃v,cl[i]? = some v:=⟨_,List.getElem?_eq_getElem (by omega)⟩
   obtain ⟨fn,b,cs,rfl,hbd,hc⟩:=hst i f v hf hv
   have hdr:fs.drop i=f::fs.drop (i+1):=by rw [List.drop_eq_getElem_cons hil,(List.getElem?_eq_some_iff.1 hf).2]
   have hg2:g.get id=some (.cells cl o tx):=by
    obtain ⟨K',nm,sm,chv,ρ,hT',gr⟩:=hr
    exact (gr.get id hid kid).1.trans hg
   simp -dsimp (disch:=(repeat first | rw [nxn] | rw [nxp]);try omega) only [go_sem,evLen,c1,g6,g7,g8,hil,hg2,hv,hbd,Nat.mul_one]
   refine callK_of (hc g Ti hr (hbi.mono (by omega) (by omega))) ?_
   rintro r h2 ⟨rfl,hr2⟩
   have hb2:=hbm f (List.mem_of_getElem? hf) _ _ _ hbi
   have he2:stepsT (f::fs.drop (i+1)) Ti=if (f Ti).1≠0 then f Ti else stepsT (fs.drop (i+1)) (f Ti).2:=rfl
   rw [hdr,he2] at he
   by_cases c2:(((f Ti).1:Nat):Int)=0
   ·rw [if_neg (by omega)] at he
    simp -dsimp (disch:=(repeat first | rw [nxn] | rw [nxp]);try omega) only [go_sem,evLen,c1,c2,g6,g7,g8]
    exact ⟨fs.length-(i+1),by omega,trivial,trivial,trivial,i+1,_,rfl,hr2,hb2.mono (by omega) (by omega),he,by omega,rfl⟩
   ·rw [if_pos (by omega)] at he
    simp -dsimp (disch:=(repeat first | rw [nxn] | rw [nxp]);try omega) only [go_sem,evLen,c1,c2,g6,g7,g8]
    rw [he]
    exact ⟨trivial,hr2,.inr ⟨trivial,rfl⟩⟩
  ·have:i=fs.length:=by omega
   subst this
   rw [List.drop_length] at he
   simp -dsimp (disch:=(repeat first | rw [nxn] | rw [nxp]);try omega) only [go_sem,evLen,c1,g6,g7,g8]
   rw [he]
   exact ⟨trivial,hr,.inl ⟨trivial,rfl⟩⟩
 ·simp -dsimp (disch:=(repeat first | rw [nxn] | rw [nxp]);try omega) only [go_sem,evLen]
  exact ⟨trivial,trivial,trivial,0,T,rfl,hT,hb,rfl,Nat.zero_le _,rfl⟩
 ·rintro ex ⟨t,g,d⟩ ⟨rfl,hr,⟨rfl,e0⟩ | ⟨rfl,g2⟩⟩
  ·dsimp only at hr
   simp -dsimp (disch:=(repeat first | rw [nxn] | rw [nxp]);try omega) only [go_sem,evLen]
   exact ⟨by rw [e0];rfl,hr⟩
  ·dsimp only at hr g2
   simp -dsimp (disch:=(repeat first | rw [nxn] | rw [nxp]);try omega) only [go_sem,evLen,g2]
   exact ⟨trivial,hr⟩
structure As (K:Nat→Nat) (p:Nat) (h0:AH) (a d e L:Nat) (path q:Pth) (l:Lg) (bv:AV) (b:List Nat):Prop where
 qa:h0.get a=some (.cells [.ptr L 0] true false)
 qd:h0.get d=some (.cells [.str q] true false)
 qe:h0.get e=some (.cells [bv] true false)
 ql:Lo h0 L p path l
 ka:a<h0.nx∧K a=0
 kd:d<h0.nx∧K d=0
 ke:e<h0.nx∧K e=0
 kl:L<h0.nx∧K L=0
 qb:Bz K h0 bv b
 qp:p<h0.nx∧K p=1
theorem As.gr {K K':Nat→Nat} {p:Nat} {h0 h:AH} {a d e L:Nat} {path q:Pth} {l:Lg} {bv:AV} {b:List Nat} (H:As K p h0 a d e L path q l bv b) (g:Gr K h0 K' h) (hp:K' p=1):As K' p h a d e L path q l bv b :=
 ⟨(g.get _ H.ka.1 H.ka.2).1.trans H.qa,(g.get _ H.kd.1 H.kd.2).1.trans H.qd,(g.get _ H.ke.1 H.ke.2).1.trans H.qe,H.ql.gr g H.kl.1 H.kl.2,⟨Nat.lt_of_lt_of_le H.ka.1 g.nx,(g.get _ H.ka.1 H.ka.2).2⟩,⟨Nat.lt_of_lt_of_le H.kd.1 g.nx,(g.get _ H.kd.1 H.kd.2).2⟩,⟨Nat.lt_of_lt_of_le H.ke.1 g.nx,(g.get _ H.ke.1 H.ke.2).2⟩,⟨Nat.lt_of_lt_of_le H.kl.1 g.nx,(g.get _ H.kl.1 H.kl.2).2⟩,H.qb.gr g,⟨Nat.lt_of_lt_of_le H.qp.1 g.nx,hp⟩⟩
theorem Bz.bp {K:Nat→Nat} {h:AH} {v:AV} {l:List Nat} {p:Nat} (hb:Bz K h v l) (hk:K p≠0):Bp p h v l:=⟨hb.1,fun id off n z c hh=>fun he=>hk (he▸hb.2 id off n z c hh)⟩
section
variable {K : Nat → Nat} {p : Nat} {h0 h : AH} {a d e L : Nat} {path q : Pth} {l : Lg} {bv : AV} {b : List Nat} {T : TT}
theorem step1C (hS:Wl S) (H:As K p h0 a d e L path q l bv b) (hq:okP q=true) (hr:Res K p h0 h T) (hm:Sm T):RnC Tryz.prog S 91 [.ptr a 0,.ptr d 0] h fun r h'=>r=.int .i64 ((remT q T).1:Nat)∧Res K p h0 h' (remT q T).2:=by
 obtain ⟨K',nm,sm,chv,ρ,hT,gr⟩:=hr
 have H2:=H.gr gr hT.kp
 have ha:=H2.qa;have hd:=H2.qd;have hl:=H2.ql
 unfold Lo at hl
 refine RnC.enter' Tryz.f91 _ 24 [.tmp 2] (hS.nw _ _ _ (by simp)) bd91 Tryz.func91 rfl rfl rfl ?_
 simp -dsimp (disch:=(repeat first | rw [nxn] | rw [nxp]);try omega) only [go_sem,evLen]
 refine syDraw.go0 (by kernel_rfl) ?_
 simp -dsimp (disch:=(repeat first | rw [nxn] | rw [nxp]);try omega) only [go_sem,evLen,ha,hd,hl]
 refine callK_of (statC hS.toSt (hT.fr ((Fr.refl h).more _ (by omega))) q) ?_
 rintro r h2 ⟨rfl,f2⟩
 have f3:Fr h h2:=((Fr.refl h).more _ (by omega)).trans f2
 have H3:=H2.gr (frGr f3 K') hT.kp
 have ha3:=H3.qa;have hd3:=H3.qd;have hl3:=H3.ql
 unfold Lo at hl3
 unfold remT
 cases hs:(statT T q).2.2
 ·rw [if_neg (by simp)]
  simp -dsimp (disch:=(repeat first | rw [nxn] | rw [nxp]);try omega) only [go_sem,evLen]
  exact ⟨trivial,K',nm,sm,chv,ρ,hT.fr f3,gr.trans (frGr f3 K')⟩
 ·rw [if_pos rfl]
  simp -dsimp (disch:=(repeat first | rw [nxn] | rw [nxp]);try omega) only [go_sem,evLen]
  refine syDraw.go0 (by kernel_rfl) ?_
  simp -dsimp (disch:=(repeat first | rw [nxn] | rw [nxp]);try omega) only [go_sem,evLen,ha3,hd3,hl3]
  have f4:Fr h2 { tr:=h2.tr,nx:=h2.nx+7 }:=(Fr.refl h2).more _ (by omega)
  refine callK_of (rmC hS.toSt (hT.fr (f3.trans f4)) hm q) ?_
  rw [hq]
  rintro r h4 ⟨rfl,hr4⟩
  simp -dsimp (disch:=(repeat first | rw [nxn] | rw [nxp]);try omega) only [go_sem,evLen]
  exact ⟨trivial,Res.trans (gr.trans (frGr (f3.trans f4) K')) hr4⟩
theorem step2C (hS:Wl S) (H:As K p h0 a d e L path q l bv b) (hq:okP q=true) (hr:Res K p h0 h T) (hm:Sm T):RnC Tryz.prog S 92 [.ptr a 0,.ptr d 0] h fun r h'=>r=.int .i64 ((makeT T true q).1:Nat)∧Res K p h0 h' (makeT T true q).2:=by
 obtain ⟨K',nm,sm,chv,ρ,hT,gr⟩:=hr
 have H2:=H.gr gr hT.kp
 have ha:=H2.qa;have hd:=H2.qd;have hl:=H2.ql
 unfold Lo at hl
 refine RnC.enter' Tryz.f92 _ 9 [.tmp 2] (hS.nw _ _ _ (by simp)) bd92 Tryz.func92 rfl rfl rfl ?_
 simp -dsimp (disch:=(repeat first | rw [nxn] | rw [nxp]);try omega) only [go_sem,evLen]
 refine syDraw.go0 (by kernel_rfl) ?_
 simp -dsimp (disch:=(repeat first | rw [nxn] | rw [nxp]);try omega) only [go_sem,evLen,ha,hd,hl]
 have f4:Fr h { tr:=h.tr,nx:=h.nx+7 }:=(Fr.refl h).more _ (by omega)
 refine callK_of (makeC hS.toSt (hT.fr f4) hm q) ?_
 rw [hq]
 rintro r h4 ⟨rfl,hr4⟩
 simp -dsimp (disch:=(repeat first | rw [nxn] | rw [nxp]);try omega) only [go_sem,evLen]
 exact ⟨trivial,Res.trans (gr.trans (frGr f4 K')) hr4⟩
theorem step3C (hS:Wl S) (H:As K p h0 a d e L path q l bv b) (hq:okP q=true) (hb:∀x∈b,x<256) (hbl:b.length≤67108864) (hr:Res K p h0 h T) (hm:Sm T):RnC Tryz.prog S 94 [.ptr a 0,.ptr d 0,.ptr e 0] h fun r h'=>r=.int .i64 ((putT T true q fun _=>b).1:Nat)∧Res K p h0 h' (putT T true q fun _=>b).2:=by
 obtain ⟨K',nm,sm,chv,ρ,hT,gr⟩:=hr
 have H2:=H.gr gr hT.kp
 have ha:=H2.qa;have hd:=H2.qd;have he:=H2.qe;have hl:=H2.ql
 unfold Lo at hl
 have ob:=(bsLn H2.qb.1).2.2
 have sb:=(bsLn H2.qb.1).2.1
 refine RnC.enter' Tryz.f94 _ 11 [.tmp 3] (hS.nw _ _ _ (by simp)) bd94 Tryz.func94 rfl rfl rfl ?_
 simp -dsimp (disch:=(repeat first | rw [nxn] | rw [nxp]);try omega) only [go_sem,evLen]
 refine syDraw.go0 (by kernel_rfl) ?_
 simp -dsimp (disch:=(repeat first | rw [nxn] | rw [nxp]);try omega) only [go_sem,evLen,ha,hd,he,hl,ob]
 have f4:Fr h { tr:=h.tr,nx:=h.nx+8 }:=(Fr.refl h).more _ (by omega)
 have H4:=H2.gr (frGr f4 K') hT.kp
 refine callK_of (writeC hS.toSt (hT.fr f4) hm q (H4.qb.bp (by rw [hT.kp];decide)) hb hbl) ?_
 rw [hq]
 rintro r h4 ⟨rfl,hr4⟩
 simp -dsimp (disch:=(repeat first | rw [nxn] | rw [nxp]);try omega) only [go_sem,evLen]
 exact ⟨trivial,Res.trans (gr.trans (frGr f4 K')) hr4⟩
theorem step4C (hS:Wl S) (H:As K p h0 a d e L path q l bv b) (hq:okP q=true) (hr:Res K p h0 h T):RnC Tryz.prog S 96 [.ptr a 0,.ptr d 0] h fun r h'=>r=.int .i64 ((syncT T true q).1:Nat)∧Res K p h0 h' (syncT T true q).2:=by
 obtain ⟨K',nm,sm,chv,ρ,hT,gr⟩:=hr
 have H2:=H.gr gr hT.kp
 have ha:=H2.qa;have hd:=H2.qd;have hl:=H2.ql
 unfold Lo at hl
 refine RnC.enter' Tryz.f96 _ 9 [.tmp 2] (hS.nw _ _ _ (by simp)) bd96 Tryz.func96 rfl rfl rfl ?_
 simp -dsimp (disch:=(repeat first | rw [nxn] | rw [nxp]);try omega) only [go_sem,evLen]
 refine syDraw.go0 (by kernel_rfl) ?_
 simp -dsimp (disch:=(repeat first | rw [nxn] | rw [nxp]);try omega) only [go_sem,evLen,ha,hd,hl]
 have f4:Fr h { tr:=h.tr,nx:=h.nx+7 }:=(Fr.refl h).more _ (by omega)
 refine callK_of (syncC hS.toSt (hT.fr f4) q) ?_
 rw [hq]
 rintro r h4 ⟨rfl,hr4⟩
 simp -dsimp (disch:=(repeat first | rw [nxn] | rw [nxp]);try omega) only [go_sem,evLen]
 exact ⟨trivial,Res.trans (gr.trans (frGr f4 K')) hr4⟩
theorem step5C (hS:Wl S) (H:As K p h0 a d e L path q l bv b) (hq:okP q=true) (hp:okP path=true) (hr:Res K p h0 h T) (hm:Sm T):RnC Tryz.prog S 97 [.ptr a 0,.ptr d 0] h fun r h'=>r=.int .i64 ((renT T true q path).1:Nat)∧Res K p h0 h' (renT T true q path).2:=by
 obtain ⟨K',nm,sm,chv,ρ,hT,gr⟩:=hr
 have H2:=H.gr gr hT.kp
 have ha:=H2.qa;have hd:=H2.qd;have hl:=H2.ql
 unfold Lo at hl
 refine RnC.enter' Tryz.f97 _ 13 [.tmp 2] (hS.nw _ _ _ (by simp)) bd97 Tryz.func97 rfl rfl rfl ?_
 simp -dsimp (disch:=(repeat first | rw [nxn] | rw [nxp]);try omega) only [go_sem,evLen]
 refine syDraw.go0 (by kernel_rfl) ?_
 simp -dsimp (disch:=(repeat first | rw [nxn] | rw [nxp]);try omega) only [go_sem,evLen,ha,hd,hl]
 have f4:Fr h { tr:=h.tr,nx:=h.nx+11 }:=(Fr.refl h).more _ (by omega)
 refine callK_of (renC hS.toSt (hT.fr f4) hm q path) ?_
 rw [hq,hp]
 rintro r h4 ⟨rfl,hr4⟩
 simp -dsimp (disch:=(repeat first | rw [nxn] | rw [nxp]);try omega) only [go_sem,evLen]
 exact ⟨trivial,Res.trans (gr.trans (frGr f4 K')) hr4⟩
theorem step6C (hS:Wl S) (hr:Res K p h0 h T) (hm:Sm T):RnC Tryz.prog S 99 [.ptr p 0] h fun r h'=>r=.int .i64 ((syncPT T).1:Nat)∧Res K p h0 h' (syncPT T).2:=by
 obtain ⟨K',nm,sm,chv,ρ,hT,gr⟩:=hr
 refine (syncPC hS.toSt hT hm).mono ?_
 rintro r h' ⟨rfl,hr4⟩
 exact ⟨rfl,Res.trans gr hr4⟩
end
end
theorem bldLg (p:Nat) (s:List Nat):evBuild Tryz.prog 108 [(1,.ptr p 0),(2,.str s)]=some (.agg [.int .i64 0,.ptr p 0,.str s,.int .i64 0,.int .i64 0]):=by kernel_rfl
theorem lenNs (g:AH):evLen Tryz.prog g #[66] .nilsl=some (.int .i64 ((0:Nat):Int)):=by simp [evLen,Tryz.underlying66]
theorem ssLn' {K:Nat→Nat} {h:AH} {v:AV} {l:List (List Nat)} (hb:Tx K h v l):(∀g,evLen Tryz.prog g #[66] v=some (.int .i64 (l.length:Nat)))∧sameAV 20 v v=true∧oneA v=true:=⟨fun g=>hb.len Tryz.underlying66 g,hb.1.one.2,hb.1.one.1⟩
theorem sv_ptr (a o:Nat):sameAV 20 (.ptr a o) (.ptr a o)=true:=by simp [sameAV]
section
variable {S : Sums}
theorem lasideC (hS:Wl S) {K p nm sm chv ρ h T} (hT:Tr K p nm sm chv ρ h T) {n c:Nat} (hb:Bm n c T) (hn:n≤16000) (hc:c<1152921504606000000) {L:Nat} {path:Pth} {l:Lg} (hL:Lo h L p path l) (kl:L<h.nx∧K L=0) (hp:checkS path=0)
  {sv:AV} {ns:Nat} (hsl:∀g,evLen Tryz.prog g #[66] sv=some (.int .i64 (ns:Nat))) (osv:oneA sv=true) {bv:AV} {b:List Nat} (hbz:Bz K h bv b) (hby:∀x∈b,x<256) (hbl:b.length≤67108864) :
  RnC Tryz.prog S 57 [.ptr L 0,sv,bv] h fun r h'=>r=.int .i64 ((asideT path (tmpS++path) b T).1:Nat)∧ResX L K p h h' (asideT path (tmpS++path) b T).2∧Lo h' L p path (if (asideT path (tmpS++path) b T).1=0 then ⟨l.e,b.length,ns⟩ else l):=by
 refine RnC.enter' Tryz.f57 _ 43 [.tmp 6] (hS.nw _ _ _ (by simp)) bd57 Tryz.func57 rfl rfl rfl ?_
 have ob:=(bsLn hbz.1).2.2
 have cb:=bsCells hbz.1
 have lb:=(bsLn hbz.1).1
 have sb:=(bsLn hbz.1).2.1
 have hpl:p<h.nx:=hT.lt (by rw [hT.kp];decide)
 have hL0:=hL
 unfold Lo at hL0
 have e1:∀(j:Nat) (o1 o2:AO),j<h.nx→((h.new o1).new o2).get j=h.get j:=fun j o1 o2 hj=>(AH.get_new_ne (by simp;omega)).trans (AH.get_new_ne (by omega))
 have hL1:=fun o1 o2=>(e1 L o1 o2 kl.1).trans hL0
 have ha1:∀(o1 o2:AO),((h.new o1).new o2).get h.nx=some o1:=fun o1 o2=>(AH.get_new_ne (by simp)).trans (AH.get_new_eq rfl)
 simp -dsimp (disch:=(repeat first | rw [nxn] | rw [nxp]);try omega) only [go_sem,ob,cb,osv,hL1,ha1]
 have f1:Fr h ((h.new (.cells [.ptr L 0] true false)).new (.cells [bv] true false)):=(Fr.new _ _).news _
 refine callK_of (tempC hS hp) ?_
 rintro r g ⟨rfl,fg⟩
 have f2:=f1.trans fg
 have ag:g.get h.nx=some (.cells [.ptr L 0] true false):=(fg.get _ (by simp;omega)).trans (ha1 _ _)
 have eg:g.get (h.nx+1)=some (.cells [bv] true false):=(fg.get _ (by simp)).trans (AH.get_new_eq rfl)
 have ng:h.nx+2≤g.nx:=fg.nx
 have lg:g.get L=_:=(f2.get _ kl.1).trans hL0
 have agn:∀(o o':AO),((g.new o).put g.nx o').get h.nx=some (.cells [.ptr L 0] true false):=fun o o'=>(AH.get_put_ne (by omega)).trans ((AH.get_new_ne (by omega)).trans ag)
 have lgn:∀(o o':AO),((g.new o).put g.nx o').get L=some (.cells [.int .i64 (l.e:Nat),.ptr p 0,.str path,.int .i64 (l.size:Nat),.int .i64 (l.n:Nat)] true false):=fun o o'=>(AH.get_put_ne (by omega)).trans ((AH.get_new_ne (by omega)).trans lg)
 simp (maxSteps:=1000000) -dsimp (disch:=(repeat first | rw [nxn] | rw [nxp]);try omega) only [go_sem,agn,lgn]
 generalize hg3:((g.new (.cells [.str []] true false)).put g.nx (.cells [.str (tmpS++path)] true false))=g3
 have n3:g3.nx=g.nx+1:=by rw [←hg3];rfl
 rw [←n3]
 have f3:Fr h g3:=by
  rw [←hg3]
  exact ⟨by show h.nx≤g.nx+1;omega,fun j hj=>(AH.get_put_ne (by omega)).trans ((AH.get_new_ne (by omega)).trans (f2.get j hj))⟩
 have agl:g3.get h.nx=some (.cells [.ptr L 0] true false):=by rw [←hg3];exact agn _ _
 have dgl:g3.get g.nx=some (.cells [.str (tmpS++path)] true false):=by rw [←hg3];exact AH.get_put_eq rfl
 have egl:g3.get (h.nx+1)=some (.cells [bv] true false):=by rw [←hg3];exact (AH.get_put_ne (by omega)).trans ((AH.get_new_ne (by omega)).trans eg)
 have lgl:Lo g3 L p path l:=by rw [←hg3];exact lgn _ _
 have H3:As K p g3 h.nx g.nx (h.nx+1) L path (tmpS++path) l bv b :=
  ⟨agl,dgl,egl,lgl,⟨by omega,hT.top _ (Nat.le_refl _)⟩,⟨by omega,hT.top _ (by omega)⟩,⟨by omega,hT.top _ (by omega)⟩,⟨by have:=f3.nx;omega,kl.2⟩,hbz.gr (frGr f3 K),⟨by omega,hT.kp⟩⟩
 have H4:∀o,As K p (g3.new o) h.nx g.nx (h.nx+1) L path (tmpS++path) l bv b:=fun o=>H3.gr (frGr (Fr.new g3 o) K) hT.kp
 have oq:=okP_tmp hp
 have op:=okP_chk hp
 refine callK_of (stepsC hS (K:=K) (p:=p) (nb:=n) (cb:=c) (cl:=[.func (.func 91) [] [.ptr h.nx 0,.ptr g.nx 0],.func (.func 92) [] [.ptr h.nx 0,.ptr g.nx 0],.func (.func 94) [] [.ptr h.nx 0,.ptr g.nx 0,.ptr (h.nx+1) 0],.func (.func 96) [] [.ptr h.nx 0,.ptr g.nx 0],.func (.func 97) [] [.ptr h.nx 0,.ptr g.nx 0],.func (.func 99) [.ptr p 0] []]) (fs:=remT (tmpS++path)::tailT path (tmpS++path) b) (AH.get_new_eq rfl) (Nat.lt_succ_self _) (hT.top _ (by omega)) rfl (by simp [tailT]) (tail_bm path (tmpS++path) b) ?_ (T:=T) ⟨K,nm,sm,chv,ρ,(hT.fr f3).fr (Fr.new _ _),Gr.refl _ _⟩ hb) ?_
 ·intro i f v hf hv
  have sm:∀ {T:TT},Bm (n+6) (c+6) T→Sm T:=fun hh=>Bm.sm hh (by omega) (by omega)
  match i,hf,hv with
  | 0,hf,hv=>cases hf;cases hv;exact ⟨_,_,_,rfl,bd91,fun h T hr hb=>step1C hS (H4 _) oq hr (sm hb)⟩
  | 1,hf,hv=>cases hf;cases hv;exact ⟨_,_,_,rfl,bd92,fun h T hr hb=>step2C hS (H4 _) oq hr (sm hb)⟩
  | 2,hf,hv=>cases hf;cases hv;exact ⟨_,_,_,rfl,bd94,fun h T hr hb=>step3C hS (H4 _) oq hby hbl hr (sm hb)⟩
  | 3,hf,hv=>cases hf;cases hv;exact ⟨_,_,_,rfl,bd96,fun h T hr hb=>step4C hS (H4 _) oq hr⟩
  | 4,hf,hv=>cases hf;cases hv;exact ⟨_,_,_,rfl,bd97,fun h T hr hb=>step5C hS (H4 _) oq op hr (sm hb)⟩
  | 5,hf,hv=>cases hf;cases hv;exact ⟨_,_,_,rfl,bd99,fun h T hr hb=>step6C hS hr (sm hb)⟩
  | i+6,hf,hv=>simp [tailT] at hf
 rintro r h5 ⟨rfl,K5,nm5,sm5,ch5,ρ5,hT5,gr5⟩
 have H5:=(H4 _).gr gr5 hT5.kp
 have l5:=H5.ql
 unfold Lo at l5
 have a5:=H5.qa
 have e5:=H5.qe
 have gx:Gr K h K5 h5:=(frGr (f3.trans (Fr.new _ _)) K).trans gr5
 have eA:stepsT (remT (tmpS++path)::tailT path (tmpS++path) b) T=asideT path (tmpS++path) b T:=rfl
 rw [eA] at hT5 ⊢
 by_cases ce:(((asideT path (tmpS++path) b T).1:Nat):Int)=0
 ·have ce':(asideT path (tmpS++path) b T).1=0:=by omega
  simp -dsimp (disch:=(repeat first | rw [nxn] | rw [nxp]);try omega) only [go_sem,ce]
  refine syDraw.keep (fun id=>id=h.nx∨id=h.nx+1) (by kernel_rfl) (by kernel_rfl) ?_
  have lp:∀(h9:AH) o,(h9.put L o).get L=some o:=fun h9 o=>AH.get_put_eq rfl
  have hne:h.nx≠L:=by omega
  simp -dsimp (disch:=(repeat first | rw [nxn] | rw [nxp]);try omega) only [go_sem,a5,e5,l5,lb,ob,hsl,osv,lp,hne,sv_ptr,sb,true_and,or_true,true_or,implies_true,sv_int]
  rw [if_pos ce']
  have kp2:∀id,(id=h.nx∨id=h.nx+1)→id≠L:=fun id hid=>by omega
  refine ⟨fun id hid=>AH.get_put_ne (kp2 id hid),fun id hid=>AH.get_put_ne (kp2 id hid),⟨K5,nm5,sm5,ch5,ρ5,hT5.mono (fun j hj=>?_) ?_,⟨?_,fun j hj hk=>⟨fun hne=>?_,?_⟩⟩⟩,?_⟩
  ·have hjL:j≠L:=fun hh=>hj (hh▸H5.kl.2)
   exact (AH.get_put_ne hjL).trans (AH.get_put_ne hjL)
  ·show h5.nx≤h5.nx+_
   omega
  ·have:=gx.nx
   show h.nx≤h5.nx+_
   omega
  ·exact (AH.get_put_ne hne).trans ((AH.get_put_ne hne).trans (gx.get j hj hk).1)
  ·exact (gx.get j hj hk).2
  ·exact AH.get_put_eq rfl
 ·simp -dsimp (disch:=(repeat first | rw [nxn] | rw [nxp]);try omega) only [go_sem,ce]
  rw [if_neg (by omega)]
  exact ⟨trivial,⟨K5,nm5,sm5,ch5,ρ5,hT5,gx.x L⟩,H5.ql⟩
end
theorem nilL (h:AH) (a:Nat):binA Tryz.prog h .eql 65 (.ptr a 0) .nilptr=some (.bool false):=by kernel_rfl
theorem nilTr (h:AH) (a:Nat):binA Tryz.prog h .eql 25 (.ptr a 0) .nilptr=some (.bool false):=by kernel_rfl
section
variable {S : Sums}
theorem lappendC (hS:Wl S) {K p nm sm chv ρ h T} (hT:Tr K p nm sm chv ρ h T) {n c:Nat} (hb:Bm n c T) (hn:n≤16000) (hc:c<1152921504606000000) {L:Nat} {path:Pth} {l:Lg} (hL:Lo h L p path l) (kl:L<h.nx∧K L=0) (hp:checkS path=0)
  {s:List Nat} (hs:s.length≤1048576) (hby:∀b∈s,b<256) (hz:l.size≤1099511627776) (hz2:l.n≤1099511627776) :
  RnC Tryz.prog S 32 [.ptr L 0,.str s] h fun r h'=>r=.int .i64 ((appendL path l T s).1:Nat)∧ResX L K p h h' (appendL path l T s).2.2∧Lo h' L p path (appendL path l T s).2.1:=by
 refine RnC.enter' Tryz.f32 _ 69 [.tmp 4] (hS.nw _ _ _ (by simp)) bd32 Tryz.func32 rfl rfl rfl ?_
 have hL0:=hL
 unfold Lo at hL0
 have op:=okP_chk hp
 simp -dsimp (disch:=(repeat first | rw [nxn] | rw [nxp]);try omega) only [go_sem,hL0,nilL,nilTr]
 refine callK_of (frameC hS hs hby) ?_
 rintro r g ⟨v,rfl,hbn,fg⟩
 have og:=(bsLn hbn.bs).2.2
 have lng:=(bsLn hbn.bs).1
 have lg:g.get L=_:=(fg.get _ kl.1).trans hL0
 have hTg:=hT.fr fg
 have kg:L<g.nx:=Nat.lt_of_lt_of_le kl.1 fg.nx
 by_cases ce:((l.e:Nat):Int)=0
 ·have e0:l.e=0:=by omega
  have ea:appendL path l T s=if (putT T true path fun o=>o++frm s).1≠0 then ((putT T true path fun o=>o++frm s).1,{ l with e:=(putT T true path fun o=>o++frm s).1 },(putT T true path fun o=>o++frm s).2) else (0,⟨0,l.size+(frm s).length,l.n+1⟩,(putT T true path fun o=>o++frm s).2):=by
   unfold appendL
   rw [if_neg (by omega)]
  rw [ea]
  clear ea
  have hpg:p<h.nx:=hT.lt (by rw [hT.kp];decide)
  simp -dsimp (disch:=(repeat first | rw [nxn] | rw [nxp]);try omega) only [go_sem,lg,og,ce]
  refine syDraw.go0 (by kernel_rfl) ?_
  simp -dsimp (disch:=(repeat first | rw [nxn] | rw [nxp]);try omega) only [go_sem,lg,og,ce]
  have f4:Fr g { tr:=g.tr,nx:=g.nx+15 }:=(Fr.refl g).more _ (by omega)
  refine callK_of (appendC hS.toSt (hTg.fr f4) (Bm.sm hb (by omega) (by omega)) path (b:=v) (l:=frm s) ((hbn.bp hpg).step f4.nx (fun j hj _=>f4.get j hj)) (frm_byt hby) (by rw [frm_len];omega)) ?_
  rw [op]
  rintro r g5 ⟨rfl,K5,nm5,sm5,ch5,ρ5,hT5,gr5⟩
  generalize (putT T true path fun o=>o++frm s)=R at hT5 ⊢
  obtain ⟨re,rT⟩:=R
  dsimp only at hT5 ⊢
  have gx:Gr K h K5 g5:=(frGr (fg.trans f4) K).trans gr5
  have l5:g5.get L=_:=(gx.get _ kl.1 kl.2).1.trans hL0
  have k5:=(gx.get _ kl.1 kl.2).2
  rw [e0] at l5
  refine callK_of (noteC hS (x:=re) l5) ?_
  rintro r g6 ⟨rfl,rfl⟩
  have ln5:∀(o:AO),(g5.put L o).get L=some o:=fun o=>AH.get_put_eq rfl
  by_cases cr:((re:Nat):Int)=0
  ·rw [if_neg (by omega)]
   simp (maxSteps:=1000000) -dsimp (disch:=(repeat first | rw [nxn] | rw [nxp]);try omega) only [go_sem,ln5,og,lng,cr,frm_len]
   refine ⟨trivial,⟨K5,nm5,sm5,ch5,ρ5,((hT5.putL k5 _).putL k5 _).putL k5 _,(((gx.x L).put _).put _).put _⟩,?_⟩
   unfold Lo
   rw [AH.get_put_eq rfl]
   rfl
  ·rw [if_pos (by omega)]
   simp -dsimp (disch:=(repeat first | rw [nxn] | rw [nxp]);try omega) only [go_sem,ln5,cr]
   refine ⟨trivial,⟨K5,nm5,sm5,ch5,ρ5,hT5.putL k5 _,(gx.x L).put _⟩,?_⟩
   unfold Lo
   rw [AH.get_put_eq rfl]
 ·have ea:appendL path l T s=(l.e,l,T):=append_bad l (by omega) T s
  rw [ea]
  simp -dsimp (disch:=(repeat first | rw [nxn] | rw [nxp]);try omega) only [go_sem,lg,og,ce]
  exact ⟨trivial,⟨K,nm,sm,chv,ρ,hTg,(frGr fg K).x L⟩,hL.gr (frGr fg K) kl.1 kl.2⟩
theorem lsyncC (hS:Wl S) {K p nm sm chv ρ h T} (hT:Tr K p nm sm chv ρ h T) {L:Nat} {path:Pth} {l:Lg} (hL:Lo h L p path l) (kl:L<h.nx∧K L=0) (hp:checkS path=0) :
  RnC Tryz.prog S 33 [.ptr L 0] h fun r h'=>r=.int .i64 ((syncL path l T).1:Nat)∧ResX L K p h h' (syncL path l T).2.2∧Lo h' L p path (syncL path l T).2.1:=by
 refine RnC.enter' Tryz.f33 _ 36 [.tmp 2] (hS.nw _ _ _ (by simp)) bd33 Tryz.func33 rfl rfl rfl ?_
 have hL0:=hL
 unfold Lo at hL0
 have op:=okP_chk hp
 by_cases ce:((l.e:Nat):Int)=0
 ·have e0:l.e=0:=by omega
  have ea:syncL path l T=((syncT T true path).1,{ l with e:=(syncT T true path).1 },(syncT T true path).2):=by
   unfold syncL
   rw [if_neg (by omega)]
  rw [ea]
  clear ea
  simp -dsimp (disch:=(repeat first | rw [nxn] | rw [nxp]);try omega) only [go_sem,hL0,nilL,nilTr,ce]
  refine syDraw.go0 (by kernel_rfl) ?_
  simp -dsimp (disch:=(repeat first | rw [nxn] | rw [nxp]);try omega) only [go_sem,hL0,ce]
  have f4:Fr h { tr:=h.tr,nx:=h.nx+14 }:=(Fr.refl h).more _ (by omega)
  refine callK_of (syncC hS.toSt (hT.fr f4) path) ?_
  rw [op]
  rintro r g5 ⟨rfl,K5,nm5,sm5,ch5,ρ5,hT5,gr5⟩
  generalize syncT T true path=R at hT5 ⊢
  obtain ⟨re,rT⟩:=R
  dsimp only at hT5 ⊢
  have gx:Gr K h K5 g5:=(frGr f4 K).trans gr5
  have l5:g5.get L=_:=(gx.get _ kl.1 kl.2).1.trans hL0
  have k5:=(gx.get _ kl.1 kl.2).2
  rw [e0] at l5
  refine callK_of (noteC hS (x:=re) l5) ?_
  rintro r g6 ⟨rfl,rfl⟩
  simp -dsimp (disch:=(repeat first | rw [nxn] | rw [nxp]);try omega) only [go_sem]
  refine ⟨trivial,⟨K5,nm5,sm5,ch5,ρ5,hT5.putL k5 _,(gx.x L).put _⟩,?_⟩
  unfold Lo
  rw [AH.get_put_eq rfl]
 ·have ea:syncL path l T=(l.e,l,T):=by
   unfold syncL
   rw [if_pos (by omega)]
  rw [ea]
  simp -dsimp (disch:=(repeat first | rw [nxn] | rw [nxp]);try omega) only [go_sem,hL0,nilL,nilTr,ce]
  exact ⟨trivial,⟨K,nm,sm,chv,ρ,hT,GrX.refl _ _ _⟩,hL⟩
theorem lasidePC (hS:Wl S) {K p nm sm chv ρ h T} (hT:Tr K p nm sm chv ρ h T) {n c:Nat} (hb:Bm n c T) (hn:n≤16000) (hc:c<1152921504606000000) {L:Nat} {path:Pth} {l:Lg} (hL:Lo h L p path l) (kl:L<h.nx∧K L=0) (hp:checkS path=0)
  {v:AV} {s:List (List Nat)} (hv:Tx K h v s) (hs:∀x∈s,x.length≤1048576∧∀b∈x,b<256) (hl:(frs s).length≤67108864) :
  RnC Tryz.prog S 31 [.ptr L 0,v] h fun r h'=>r=.int .i64 ((asideL path (tmpS++path) l T s).1:Nat)∧ResX L K p h h' (asideL path (tmpS++path) l T s).2.2∧Lo h' L p path (asideL path (tmpS++path) l T s).2.1:=by
 refine RnC.enter' Tryz.f31 _ 43 [.tmp 4] (hS.nw _ _ _ (by simp)) bd31 Tryz.func31 rfl rfl rfl ?_
 have hL0:=hL
 unfold Lo at hL0
 have op:=okP_chk hp
 have ov:=hv.1.one.1
 simp -dsimp (disch:=(repeat first | rw [nxn] | rw [nxp]);try omega) only [go_sem,hL0,nilL,nilTr,ov]
 refine callK_of (framesC hS hv hs (by omega)) ?_
 rintro r g ⟨w,rfl,hbn,fg⟩
 have og:=(bsLn hbn.bs).2.2
 have lg:g.get L=_:=(fg.get _ kl.1).trans hL0
 have hTg:=hT.fr fg
 have kg:L<g.nx:=Nat.lt_of_lt_of_le kl.1 fg.nx
 by_cases ce:((l.e:Nat):Int)=0
 ·have e0:l.e=0:=by omega
  have ea:asideL path (tmpS++path) l T s=if (asideT path (tmpS++path) (frs s) T).1≠0 then ((asideT path (tmpS++path) (frs s) T).1,{ l with e:=(asideT path (tmpS++path) (frs s) T).1 },(asideT path (tmpS++path) (frs s) T).2) else (0,⟨0,(frs s).length,s.length⟩,(asideT path (tmpS++path) (frs s) T).2):=by
   unfold asideL
   rw [if_neg (by omega)]
  rw [ea]
  clear ea
  simp -dsimp (disch:=(repeat first | rw [nxn] | rw [nxp]);try omega) only [go_sem,lg,og,ov,ce]
  refine syDraw.go0 (by kernel_rfl) ?_
  simp -dsimp (disch:=(repeat first | rw [nxn] | rw [nxp]);try omega) only [go_sem,lg,og,ov,ce]
  have f4:Fr g { tr:=g.tr,nx:=g.nx+9 }:=(Fr.refl g).more _ (by omega)
  have hv4:=(hv.fr (fg.trans f4))
  have bz:Bz K { tr:=g.tr,nx:=g.nx+9 } w (frs s):=⟨hbn.bs.fr f4,fun id off n z c hh=>by
   rcases hbn with ⟨h1,_⟩ | ⟨id',c',cs,tx,h1,h2,h3,h4,h5⟩
   ·rw [h1] at hh;cases hh
   ·rw [h1] at hh;cases hh;exact hT.top _ h4⟩
  have hL4:Lo { tr:=g.tr,nx:=g.nx+9 } L p path l:=lg
  refine callK_of (lasideC hS (hTg.fr f4) hb hn hc hL4 ⟨by show L<g.nx+9;omega,kl.2⟩ hp (sv:=v) (ns:=s.length) (fun g=>hv.len Tryz.underlying66 g) ov bz (frs_byt fun x hx=>(hs x hx).2) hl) ?_
  rintro r g5 ⟨rfl,⟨K5,nm5,sm5,ch5,ρ5,hT5,gr5⟩,l5⟩
  generalize asideT path (tmpS++path) (frs s) T=R at hT5 l5 ⊢
  obtain ⟨re,rT⟩:=R
  dsimp only at hT5 l5 ⊢
  have gx:GrX L K h K5 g5:=((frGr (fg.trans f4) K).x L).trans gr5
  have k5:=(gx.get _ kl.1 kl.2).2
  by_cases cr:((re:Nat):Int)=0
  ·have cr':re=0:=by omega
   rw [if_pos cr'] at l5
   rw [if_neg (by omega)]
   unfold Lo at l5
   rw [e0] at l5
   refine callK_of (noteC hS (x:=re) l5) ?_
   rintro r g6 ⟨rfl,rfl⟩
   simp -dsimp (disch:=(repeat first | rw [nxn] | rw [nxp]);try omega) only [go_sem]
   refine ⟨by rw [cr'];rfl,⟨K5,nm5,sm5,ch5,ρ5,hT5.putL k5 _,gx.put _⟩,?_⟩
   unfold Lo
   rw [AH.get_put_eq rfl,cr']
  ·rw [if_neg (by omega)] at l5
   rw [if_pos (by omega)]
   unfold Lo at l5
   rw [e0] at l5
   refine callK_of (noteC hS (x:=re) l5) ?_
   rintro r g6 ⟨rfl,rfl⟩
   simp -dsimp (disch:=(repeat first | rw [nxn] | rw [nxp]);try omega) only [go_sem]
   refine ⟨trivial,⟨K5,nm5,sm5,ch5,ρ5,hT5.putL k5 _,gx.put _⟩,?_⟩
   unfold Lo
   rw [AH.get_put_eq rfl]
 ·have ea:asideL path (tmpS++path) l T s=(l.e,l,T):=by
   unfold asideL
   rw [if_pos (by omega)]
  rw [ea]
  simp -dsimp (disch:=(repeat first | rw [nxn] | rw [nxp]);try omega) only [go_sem,lg,og,ov,ce]
  exact ⟨trivial,⟨K,nm,sm,chv,ρ,hTg,(frGr fg K).x L⟩,hL.gr (frGr fg K) kl.1 kl.2⟩
theorem lsizeC (hS:Wl S) {h:AH} {L p:Nat} {path:Pth} {l:Lg} (hL:Lo h L p path l):RnC Tryz.prog S 29 [.ptr L 0] h fun r h'=>r=.int .i64 (l.size:Nat)∧h'=h:=by
 refine RnC.enter' Tryz.f29 _ 9 [.tmp 2] (hS.nw _ _ _ (by simp)) bd29 Tryz.func29 rfl rfl rfl ?_
 unfold Lo at hL
 simp -dsimp (disch:=(repeat first | rw [nxn] | rw [nxp]);try omega) only [go_sem,evLen,hL,nilL]
 exact ⟨trivial,trivial⟩
/-! ### Texts -/
end
theorem Bz.slice_to {K:Nat→Nat} {P:Program} {h:AH} {v:AV} {l:List Nat} {t e:TypeId} {hi:Nat} (hz:Bz K h v l) (ht:P.underlying t=some (.slice e)) (he:tsize P e=some 1) (hhi:hi≤l.length) :
  ∃v',(∀h1,evSlice P h1 t v none (some (.int .i64 (hi:Nat))) none=some v')∧Bz K h v' (l.take hi)∧sameAV 20 v' v'=true∧oneA v'=true:=by
 obtain ⟨hb,hk⟩:=hz
 rcases hb with ⟨rfl,rfl⟩ | ⟨id,off,c,cs,o,tx,rfl,h2,h3,h4,h5,h6⟩
 ·obtain rfl:hi=0:=by simpa using hhi
  refine ⟨.nilsl,fun h1=>?_,⟨.inl ⟨rfl,rfl⟩,fun _ _ _ _ _ hh=>by cases hh⟩,rfl,rfl⟩
  simp [evSlice,ht,he,boundsA,boundA,upTo]
 ·refine ⟨.sl id (off+0*1) (hi-0) 1 (c.map (· - 0)),fun h1=>?_,⟨.inr ⟨id,off+0*1,c.map (· - 0),cs,o,tx,?_,h2,h3,?_,?_,?_⟩,fun _ _ _ _ _ hh=>by cases hh;exact hk _ _ _ _ _ rfl⟩,?_,rfl⟩
  ·have hu:upTo ((hi:Nat):Int) (c.getD l.length)=some hi:=by
    rw [upTo_of (by omega) (by cases c with
     | none=>simp;omega
     | some c=>simp;have:=h5 c rfl;omega)]
    simp
   simp [evSlice,ht,he,boundsA,boundA,hu]
  ·simp;omega
  ·simp;omega
  ·intro k hk
   cases c with
   | none=>simp at hk
   | some c=>simp at hk;have:=h5 c rfl;simp;omega
  ·have h7:(byC l).take hi=byC (l.take hi):=byC_take l hi
   rw [←h7,←h6,List.take_take]
   simp
  ·simp [sameAV]
section
variable {S : Sums}
def OpenQ (K:Nat→Nat) (p:Nat) (h:AH) (path:Pth) (O:Option (Lg×List (List Nat))×Nat×TT) (r:AV) (h':AH):Prop :=
 ∃K' nm sm chv ρ,Tr K' p nm sm chv ρ h' O.2.2∧Gr K h K' h'∧((O.1=none∧O.2.1≠0∧r=.tup [.nilptr,.nilsl,.int .i64 (O.2.1:Nat)]) ∨
  ∃l s L sv,O.1=some (l,s)∧O.2.1=0∧r=.tup [.ptr L 0,sv,.int .i64 0]∧Lo h' L p path l∧L<h'.nx∧h.nx≤L∧K' L=0∧Tx K' h' sv s∧∀id off n z c,sv=.sl id off n z c→id≠L∧h.nx≤id)
theorem read_byt {T:TT} (w:Wf T) (b:Bool) (s:Pth):∀x∈(readT T b s).1,x<256:=by
 unfold readT
 dsimp only
 split
 ·exact fun x hx=>by simp at hx
 ·split
  ·exact fun x hx=>by simp at hx
  ·exact (fil_ok (w.op _) _).1
theorem fil_op (T:TT) (b:Bool) (i:Nat):(opT T b).2.fil i=T.fil i:=by
 unfold TT.fil
 rw [(opT_eq T b).2.2.2.2.2]
theorem read_len {T:TT} {b:Bool} {s:Pth} {m:Nat} (h:∀i,valS T.now s=some i→(T.fil i).b.length≤m):(readT T b s).1.length≤m:=by
 unfold readT
 dsimp only
 split
 ·exact Nat.zero_le _
 ·split
  ·exact Nat.zero_le _
  ·rename_i i hi
   rw [(opT_eq T b).2.1] at hi
   rw [fil_op]
   exact h i hi
def openEnd (q:Pth) (n:Nat) (s:List (List Nat)) (r:Nat×TT):Option (Lg×List (List Nat))×Nat×TT :=
 if r.1≠0 then (none,r) else if (remT q r.2).1≠0 then (none,remT q r.2) else (some (⟨0,n,s.length⟩,s),remT q r.2)
theorem csOther {h h':AH} {v:AV} {l:List AV} {L:Nat} (hb:Go.Abs.Cs h v l) (hn:h.nx≤h'.nx) (hg:∀j,j<h.nx→j≠L→h'.get j=h.get j) (hv:∀id off n z c,v=.sl id off n z c→id≠L):Go.Abs.Cs h' v l:=by
 rcases hb with h1 | ⟨id,off,c,cs,o,t,h1,h2,h3,h4⟩
 ·exact .inl h1
 ·exact .inr ⟨id,off,c,cs,o,t,h1,(hg id h3 (hv _ _ _ _ _ h1)).trans h2,Nat.lt_of_lt_of_le h3 hn,h4⟩
theorem bsOther {h h':AH} {v:AV} {l:List Nat} {L:Nat} (hb:Bs h v l) (hn:h.nx≤h'.nx) (hg:∀j,j<h.nx→j≠L→h'.get j=h.get j) (hv:∀id off n z c,v=.sl id off n z c→id≠L):Bs h' v l:=by
 rcases hb with h1 | ⟨id,off,c,cs,o,t,h1,h2,h3,h4⟩
 ·exact .inl h1
 ·exact .inr ⟨id,off,c,cs,o,t,h1,(hg id h3 (hv _ _ _ _ _ h1)).trans h2,Nat.lt_of_lt_of_le h3 hn,h4⟩
theorem openC (hS:Wl S) {K p nm sm chv ρ h T} (hT:Tr K p nm sm chv ρ h T) {n c:Nat} (hb:Bm n c T) (hn:n≤15000) (hc:c<1152921504605000000) {path:Pth} (hp:checkS path=0) (hsz:∀i,valS T.now path=some i→(T.fil i).b.length≤1048576) :
  RnC Tryz.prog S 25 [.ptr p 0,.str path] h fun r h'=>OpenQ K p h path (openT path (tmpS++path) T) r h':=by
 refine RnC.enter' Tryz.f25 _ 112 [.tmp 4,.tmp 5,.tmp 6] (hS.nw _ _ _ (by simp)) bd25 Tryz.func25 rfl rfl rfl ?_
 have okp:=okP_chk hp
 have okt:=okP_tmp hp
 simp -dsimp (disch:=(repeat first | rw [nxn] | rw [nxp]);try omega) only [go_sem]
 refine callK_of (hT.made hS.toSt) ?_
 rintro r h2 ⟨rfl,rfl⟩
 simp -dsimp (disch:=(repeat first | rw [nxn] | rw [nxp]);try omega) only [go_sem]
 refine callK_of (checkC hS.toSp) ?_
 rintro r h3 ⟨rfl,f3⟩
 simp -dsimp (disch:=(repeat first | rw [nxn] | rw [nxp]);try omega) only [go_sem,hp,bldLg]
 refine callK_of (statC hS.toSt (hT.fr (f3.news _)) path) ?_
 rintro r h5 ⟨rfl,f5⟩
 have hL5:Lo h5 h3.nx p path ⟨0,0,0⟩:=(f5.get _ (Nat.lt_succ_self _)).trans (AH.get_new_eq rfl)
 have nL5:h3.nx<h5.nx:=Nat.lt_of_lt_of_le (Nat.lt_succ_self _) f5.nx
 have f25:Fr h2 h5:=(f3.news _).trans f5
 have n23:=f3.nx
 clear f5
 generalize h3.nx=L at hL5 nL5 n23 ⊢
 clear f3
 have hT5:=hT.fr f25
 have k5:L<h5.nx∧K L=0:=⟨nL5,hT.top _ n23⟩
 cases hs:(statT T path).2.2
 ·simp -dsimp (disch:=(repeat first | rw [nxn] | rw [nxp]);try omega) only [go_sem]
  refine callK_of (lasideC hS hT5 hb (by omega) (by omega) hL5 k5 hp (sv:=.nilsl) (ns:=0) lenNs rfl (bv:=.nilsl) (b:=[]) ⟨.inl ⟨rfl,rfl⟩,fun _ _ _ _ _ hh=>by cases hh⟩ (by simp) (by simp)) ?_
  rintro r h6 ⟨rfl,⟨K6,nm6,sm6,ch6,ρ6,hT6,g6⟩,hL6⟩
  have gg:Gr K h2 K6 h6:=((frGr f25 K).x L).trans g6 |>.gr n23
  by_cases ce:(((asideT path (tmpS++path) [] T).1:Nat):Int)=0
  ·have eO:openT path (tmpS++path) T=(some (⟨0,0,0⟩,[]),asideT path (tmpS++path) [] T):=by
    unfold openT
    rw [if_pos hs,if_neg (by omega)]
   rw [eO]
   rw [if_pos (by omega)] at hL6
   simp -dsimp (disch:=(repeat first | rw [nxn] | rw [nxp]);try omega) only [go_sem,ce]
   exact ⟨K6,nm6,sm6,ch6,ρ6,hT6,gg,.inr ⟨_,_,L,.nilsl,rfl,by show (asideT path (tmpS++path) [] T).1=0;omega,rfl,hL6,Nat.lt_of_lt_of_le nL5 g6.nx,n23,(g6.get L nL5 k5.2).2,⟨.inl ⟨rfl,rfl⟩,fun _ _ _ _ _ hh=>by cases hh⟩,fun _ _ _ _ _ hh=>by cases hh⟩⟩
  ·have eO:openT path (tmpS++path) T=(none,asideT path (tmpS++path) [] T):=by
    unfold openT
    rw [if_pos hs,if_pos (by omega)]
   rw [eO]
   simp -dsimp (disch:=(repeat first | rw [nxn] | rw [nxp]);try omega) only [go_sem,ce]
   exact ⟨K6,nm6,sm6,ch6,ρ6,hT6,gg,.inl ⟨rfl,by show (asideT path (tmpS++path) [] T).1≠0;omega,rfl⟩⟩
 ·have eO:openT path (tmpS++path) T =
   if (readT T true path).2.1≠0 then (none,(readT T true path).2) else
   if (tot (readT T true path).1).2.2≠0 then (none,(tot (readT T true path).1).2.2,(readT T true path).2.2) else
   openEnd (tmpS++path) (tot (readT T true path).1).2.1 (tot (readT T true path).1).1 (if (tot (readT T true path).1).2.1<(readT T true path).1.length then asideT path (tmpS++path) ((readT T true path).1.take (tot (readT T true path).1).2.1) (readT T true path).2.2 else (0,(readT T true path).2.2)):=by
   unfold openT
   rw [if_neg (by rw [hs];decide)]
   rfl
  rw [eO]
  clear eO
  have rb:=read_byt hT.wf true path
  have rl:=read_len (b:=true) hsz
  have hbr:=hb.read true path
  simp -dsimp (disch:=(repeat first | rw [nxn] | rw [nxp]);try omega) only [go_sem]
  refine callK_of (readC hS.toSt hT5 path) ?_
  rw [okp]
  rintro r h6 ⟨⟨v,rfl,bv,idv⟩,hT6,g6⟩
  generalize readT T true path=R at hT6 bv rb rl hbr ⊢
  obtain ⟨rbs,re,rT⟩:=R
  dsimp only at hT6 bv rb rl hbr ⊢
  have k6:L<h6.nx∧K L=0:=⟨Nat.lt_of_lt_of_le nL5 g6.nx,k5.2⟩
  have hL6:=hL5.gr g6 k5.1 k5.2
  have gg6:Gr K h2 K h6:=(frGr f25 K).trans g6
  by_cases ce:((re:Nat):Int)=0
  ·have ce':¬re≠0:=by omega
   rw [if_neg ce']
   obtain ⟨lv,sv',ov⟩:=bsLn bv
   have bz6:Bz K h6 v rbs:=⟨bv,fun id off n z c hh=>hT.top _ (Nat.le_trans f25.nx (idv _ _ _ _ _ hh))⟩
   simp -dsimp (disch:=(repeat first | rw [nxn] | rw [nxp]);try omega) only [go_sem,ce,ov]
   refine callK_of (scanC hS bv rb rl) ?_
   rintro r h7 ⟨sl,rfl,ss7,f7⟩
   have hT7:=hT6.fr f7
   have tx7:Tx K h7 sl (tot rbs).1:=Tx.of ss7 (fun j hj=>hT6.top j hj)
   have hL7:=hL6.gr (frGr f7 K) k6.1 k6.2
   have k7:L<h7.nx∧K L=0:=⟨Nat.lt_of_lt_of_le k6.1 f7.nx,k6.2⟩
   have bz7:=bz6.gr (frGr f7 K)
   have gg7:=gg6.trans (frGr f7 K)
   have idl:∀id off n z c,sl=.sl id off n z c→h6.nx≤id:=fun id off n z c hh=>by
    rcases ss7 with ⟨h1,_⟩ | ⟨id',h1,h2',h3',h4'⟩
    ·rw [h1] at hh;cases hh
    ·rw [h1] at hh;cases hh;exact h4'
   have hwl:=scn_whole (rbs.length+1) rbs
   have hwl':(tot rbs).2.1≤rbs.length:=hwl
   obtain ⟨lsl,ssl,osl⟩:=ssLn' tx7
   generalize tot rbs=TT0 at tx7 lsl hwl' ⊢
   obtain ⟨rs,rw_,rx⟩:=TT0
   dsimp only at tx7 lsl hwl' ⊢
   by_cases cx:((rx:Nat):Int)=0
   ·have cx':¬rx≠0:=by omega
    rw [if_neg cx']
    have idL:∀id off n z c,sl=.sl id off n z c→id≠L∧h2.nx≤id:=fun id off n z c hh=>by
     have h1:=idl _ _ _ _ _ hh
     have h2':=g6.nx
     have h3':=f25.nx
     exact ⟨by omega,by omega⟩
    have idV:∀id off n z c,v=.sl id off n z c→id≠L:=fun id off n z c hh=>by
     have h1:=idv _ _ _ _ _ hh
     omega
    have l7:=hL7
    unfold Lo at l7
    have lp:∀(h9:AH) o,(h9.put L o).get L=some o:=fun h9 o=>AH.get_put_eq rfl
    simp (maxSteps:=1000000) -dsimp (disch:=(repeat first | rw [nxn] | rw [nxp]);try omega) only [go_sem,cx,l7,lp,lsl,osl]
    generalize hg8:((h7.put L (.cells [.int .i64 ((0:Nat):Int),.ptr p 0,.str path,.int .i64 (rw_:Nat),.int .i64 ((0:Nat):Int)] true false)).put L (.cells [.int .i64 ((0:Nat):Int),.ptr p 0,.str path,.int .i64 (rw_:Nat),.int .i64 (rs.length:Nat)] true false))=h8
    have o8:∀j,j<h7.nx→j≠L→h8.get j=h7.get j:=fun j _ hj=>by rw [←hg8];exact (AH.get_put_ne hj).trans (AH.get_put_ne hj)
    have n8:h7.nx≤h8.nx:=by rw [←hg8];exact Nat.le_refl _
    have hL8:Lo h8 L p path ⟨0,rw_,rs.length⟩:=by rw [←hg8];exact AH.get_put_eq rfl
    have hT8:Tr K p nm sm chv ρ h8 rT:=by rw [←hg8];exact (hT7.putL k7.2 _).putL k7.2 _
    have gg8:Gr K h2 K h8:=by rw [←hg8];exact (((gg7.x L).put _).put _).gr n23
    have k8:L<h8.nx∧K L=0:=⟨Nat.lt_of_lt_of_le k7.1 n8,k7.2⟩
    have tx8:Tx K h8 sl rs:=⟨csOther tx7.1 n8 o8 fun id off n z c hh=>(idL _ _ _ _ _ hh).1,tx7.2⟩
    have bz8:Bz K h8 v rbs:=⟨bsOther bz7.1 n8 o8 idV,bz7.2⟩
    by_cases cw:((rw_:Nat):Int)<((rbs.length:Nat):Int)
    ·rw [if_pos (by omega)]
     obtain ⟨v',hsl',bz',_⟩:=bz8.slice_to Tryz.underlying87 tz5 (hi:=rw_) hwl'
     simp (maxSteps:=1000000) -dsimp (disch:=(repeat first | rw [nxn] | rw [nxp]);try omega) only [go_sem,cw,lv,ov,osl,hsl']
     refine callK_of (lasideC hS hT8 hbr (by omega) (by omega) hL8 k8 hp (sv:=sl) (ns:=rs.length) lsl osl bz' (fun x hx=>rb x (List.mem_of_mem_take hx)) (by rw [List.length_take];omega)) ?_
     rintro r h9 ⟨rfl,⟨K9,nm9,sm9,ch9,ρ9,hT9,g9⟩,hL9⟩
     have hb9:=(hbr.aside path (tmpS++path) (rbs.take rw_))
     have hlt:(rbs.take rw_).length=rw_:=by rw [List.length_take];omega
     rw [hlt] at hL9
     have k9:L<h9.nx∧K9 L=0:=⟨Nat.lt_of_lt_of_le k8.1 g9.nx,(g9.get _ k8.1 k8.2).2⟩
     have gg9:Gr K h2 K9 h9:=((gg8.x L).trans g9).gr n23
     have tx9:Tx K9 h9 sl rs:=by
      refine ⟨?_,fun id off n z c hh=>?_⟩
      ·rcases tx8.1 with h1 | ⟨id,off,c,cs,o,t,h1,h2',h3,h4⟩
       ·exact .inl h1
       ·exact .inr ⟨id,off,c,cs,o,t,h1,((g9.get id h3 (tx8.2 _ _ _ _ _ h1)).1 (idL _ _ _ _ _ h1).1).trans h2',Nat.lt_of_lt_of_le h3 g9.nx,h4⟩
      ·rcases tx8.1 with ⟨h1,_⟩ | ⟨id',off',c',cs,o,t,h1,h2',h3,h4⟩
       ·rw [h1] at hh;cases hh
       ·have hq:=h1;rw [hh] at hq;cases hq
        exact (g9.get _ h3 (tx8.2 _ _ _ _ _ h1)).2
     generalize asideT path (tmpS++path) (rbs.take rw_) rT=A9 at hT9 hb9 hL9 ⊢
     obtain ⟨e9,T9⟩:=A9
     dsimp only at hT9 hb9 hL9
     have smm:Sm T9:=Bm.sm hb9 (by omega) (by omega)
     by_cases c9:((e9:Nat):Int)=0
     ·obtain rfl:e9=0:=by omega
      rw [if_pos rfl] at hL9
      simp -dsimp (disch:=(repeat first | rw [nxn] | rw [nxp]);try omega) only [go_sem]
      refine callK_of (tempC hS hp) ?_
      rintro r ha ⟨rfl,fa⟩
      have hTa:=hT9.fr fa
      simp (maxSteps:=1000000) -dsimp (disch:=(repeat first | rw [nxn] | rw [nxp]);try omega) only [go_sem]
      refine callK_of (statC hS.toSt hTa (tmpS++path)) ?_
      rintro r hb' ⟨rfl,fb⟩
      have hTb:=hTa.fr fb
      have hLb:=hL9.gr (frGr (fa.trans fb) K9) k9.1 k9.2
      have kb:L<hb'.nx∧K9 L=0:=⟨Nat.lt_of_lt_of_le k9.1 (fa.trans fb).nx,k9.2⟩
      have txb:=Tx.gr tx9 (frGr (fa.trans fb) K9)
      have ggb:=gg9.trans (frGr (fa.trans fb) K9)
      unfold openEnd
      rw [if_neg (fun hh=>hh rfl)]
      dsimp only
      cases hst:(statT T9 (tmpS++path)).2.2
      ·have er:remT (tmpS++path) T9=(0,T9):=by unfold remT;rw [if_neg (by rw [hst];decide)]
       rw [er,if_neg (fun hh=>hh rfl)]
       simp (maxSteps:=1000000) -dsimp (disch:=(repeat first | rw [nxn] | rw [nxp]);try omega) only [go_sem,osl]
       exact ⟨K9,nm9,sm9,ch9,ρ9,hTb,ggb,.inr ⟨_,_,L,sl,rfl,rfl,rfl,hLb,kb.1,n23,kb.2,txb,idL⟩⟩
      ·have er:remT (tmpS++path) T9=rmT T9 true (tmpS++path):=by unfold remT;rw [if_pos hst]
       rw [er]
       simp (maxSteps:=1000000) -dsimp (disch:=(repeat first | rw [nxn] | rw [nxp]);try omega) only [go_sem]
       refine callK_of (rmC hS.toSt hTb smm (tmpS++path)) ?_
       rw [okt]
       rintro r hc' ⟨rfl,Kc,nmc,smc,chc,ρc,hTc,gc⟩
       by_cases c0:(((rmT T9 true (tmpS++path)).1:Nat):Int)=0
       ·rw [if_neg (by omega)]
        simp (maxSteps:=1000000) -dsimp (disch:=(repeat first | rw [nxn] | rw [nxp]);try omega) only [go_sem,c0,osl]
        exact ⟨Kc,nmc,smc,chc,ρc,hTc,ggb.trans gc,.inr ⟨_,_,L,sl,rfl,by dsimp only;omega,rfl,hLb.gr gc kb.1 kb.2,Nat.lt_of_lt_of_le kb.1 gc.nx,n23,(gc.get _ kb.1 kb.2).2,Tx.gr txb gc,idL⟩⟩
       ·rw [if_pos (by omega)]
        simp (maxSteps:=1000000) -dsimp (disch:=(repeat first | rw [nxn] | rw [nxp]);try omega) only [go_sem,c0]
        exact ⟨Kc,nmc,smc,chc,ρc,hTc,ggb.trans gc,.inl ⟨rfl,by dsimp only;omega,rfl⟩⟩
     ·unfold openEnd
      rw [if_pos (by dsimp only;omega)]
      simp -dsimp (disch:=(repeat first | rw [nxn] | rw [nxp]);try omega) only [go_sem,c9]
      exact ⟨K9,nm9,sm9,ch9,ρ9,hT9,gg9,.inl ⟨rfl,by dsimp only;omega,rfl⟩⟩
    ·rw [if_neg (by omega)]
     have smm:Sm rT:=Bm.sm hbr (by omega) (by omega)
     simp -dsimp (disch:=(repeat first | rw [nxn] | rw [nxp]);try omega) only [go_sem,cw,lv,ov]
     refine callK_of (tempC hS hp) ?_
     rintro r ha ⟨rfl,fa⟩
     have hTa:=hT8.fr fa
     simp (maxSteps:=1000000) -dsimp (disch:=(repeat first | rw [nxn] | rw [nxp]);try omega) only [go_sem]
     refine callK_of (statC hS.toSt hTa (tmpS++path)) ?_
     rintro r hb' ⟨rfl,fb⟩
     have hTb:=hTa.fr fb
     have hLb:=hL8.gr (frGr (fa.trans fb) K) k8.1 k8.2
     have kb:L<hb'.nx∧K L=0:=⟨Nat.lt_of_lt_of_le k8.1 (fa.trans fb).nx,k8.2⟩
     have txb:=Tx.gr tx8 (frGr (fa.trans fb) K)
     have ggb:=gg8.trans (frGr (fa.trans fb) K)
     unfold openEnd
     rw [if_neg (fun hh=>hh rfl)]
     dsimp only
     cases hst:(statT rT (tmpS++path)).2.2
     ·have er:remT (tmpS++path) rT=(0,rT):=by unfold remT;rw [if_neg (by rw [hst];decide)]
      rw [er,if_neg (fun hh=>hh rfl)]
      simp (maxSteps:=1000000) -dsimp (disch:=(repeat first | rw [nxn] | rw [nxp]);try omega) only [go_sem,osl]
      exact ⟨K,nm,sm,chv,ρ,hTb,ggb,.inr ⟨_,_,L,sl,rfl,rfl,rfl,hLb,kb.1,n23,kb.2,txb,idL⟩⟩
     ·have er:remT (tmpS++path) rT=rmT rT true (tmpS++path):=by unfold remT;rw [if_pos hst]
      rw [er]
      simp (maxSteps:=1000000) -dsimp (disch:=(repeat first | rw [nxn] | rw [nxp]);try omega) only [go_sem]
      refine callK_of (rmC hS.toSt hTb smm (tmpS++path)) ?_
      rw [okt]
      rintro r hc' ⟨rfl,Kc,nmc,smc,chc,ρc,hTc,gc⟩
      by_cases c0:(((rmT rT true (tmpS++path)).1:Nat):Int)=0
      ·rw [if_neg (by omega)]
       simp (maxSteps:=1000000) -dsimp (disch:=(repeat first | rw [nxn] | rw [nxp]);try omega) only [go_sem,c0,osl]
       exact ⟨Kc,nmc,smc,chc,ρc,hTc,ggb.trans gc,.inr ⟨_,_,L,sl,rfl,by dsimp only;omega,rfl,hLb.gr gc kb.1 kb.2,Nat.lt_of_lt_of_le kb.1 gc.nx,n23,(gc.get _ kb.1 kb.2).2,Tx.gr txb gc,idL⟩⟩
      ·rw [if_pos (by omega)]
       simp (maxSteps:=1000000) -dsimp (disch:=(repeat first | rw [nxn] | rw [nxp]);try omega) only [go_sem,c0]
       exact ⟨Kc,nmc,smc,chc,ρc,hTc,ggb.trans gc,.inl ⟨rfl,by dsimp only;omega,rfl⟩⟩
   ·rw [if_pos (by omega)]
    simp -dsimp (disch:=(repeat first | rw [nxn] | rw [nxp]);try omega) only [go_sem,cx,osl]
    exact ⟨K,nm,sm,chv,ρ,hT7,gg7,.inl ⟨rfl,by show rx≠0;omega,rfl⟩⟩
  ·rw [if_pos (by omega)]
   simp -dsimp (disch:=(repeat first | rw [nxn] | rw [nxp]);try omega) only [go_sem,ce]
   exact ⟨K,nm,sm,chv,ρ,hT6,gg6,.inl ⟨rfl,by show re≠0;omega,rfl⟩⟩
end
end Go.Proofs.YtaooopaemphfjaaGreatDoor.tre
end