/- Texts joined: MLj, MLn, MLk. -/
import Derived.Test.YtihigekgnnoejaaGreatDoorJ2
import Derived.Test.YtihigekgnnoejaaGreatDoorG1
import Derived.Test.YtihigekgnnoejaaGreatDoorH9
import Derived.Test.YtihigekgnnoejaaGreatDoorJ6
set_option maxRecDepth 100000
set_option linter.unusedVariables false
set_option linter.unusedSimpArgs false
set_option maxHeartbeats 64000000
section
namespace Go.Proofs.YtihigekgnnoejaaGreatDoor.mdl
open Go Go.Abs Go.Proofs
section
variable {S : Sums}
theorem runC (hS:Nw S) {h:AH} {v:AV} {L:List Se} (hL:Sl (fun _=>0) 30 (Sa (fun _=>0) h) h v L) (hL60:L.length≤60) (hall:∀x∈L,lightS x):RnC Tryz.prog S 12 [v] h fun r h'=>(∃hw sw l s a b,r=.tup [.agg [hw,sw],.int .i64 a,.int .i64 b]∧Hs (fun _=>0) h' hw l∧Ms (fun _=>0) h' sw s∧InvX 0 (20*L.length) l∧SB (120+L.length) s)∧Fr h h':=by
 refine RnC.enter' Tryz.f12 _ 30 [.cell 2 28,.tmp 3,.tmp 4] (hS.nw9 _ _ _ (by simp)) bd12 Tryz.func12 rfl rfl rfl ?_
 have lv:=fun g=>Sl.len (P:=Tryz.prog) hL Tryz.underlying22 g
 have ov:=hL.one.2
 have mv:=oneM ov
 simp (maxSteps:=9^9) -dsimp (disch:=repeat first|rw [nxn]|rw [nxp]|omega) only [go_sem,ov,mv,lv]
 have f0:Fr h (h.new (.cells [.nilsl,.nilsl] true false)):=Fr.new _ _
 have q0:(h.new (.cells [.nilsl,.nilsl] true false)).get h.nx=some (.cells [.nilsl,.nilsl] true false):=AH.get_new_eq rfl
 have n0:(h.new (.cells [.nilsl,.nilsl] true false)).nx=h.nx+1:=rfl
 generalize h.new (.cells [.nilsl,.nilsl] true false)=g0 at f0 q0 n0 ⊢
 generalize hWe:h.nx=W at q0 n0 ⊢
 refine loopK_of (RnL.rounds (Q:=fun ex u=>u.d=[]∧Fr h u.h∧W<u.h.nx∧u.t.get 2=some (.ptr W 0)∧(∃(l:List Hd) (s:List Mt) (hw sw:AV),u.h.get W=some (.cells [hw,sw] true false)∧Hs (K9 W) u.h hw l∧Ms (K9 W) u.h sw s∧InvX 0 (20*L.length) l∧SB (120+L.length) s)∧(ex=.exit 0∨ex=.ret∧∃a b:Int,u.t.get 3=some (.int .i64 a)∧u.t.get 4=some (.int .i64 b)))
  (fun k u=>u.d=[]∧Fr h u.h∧W<u.h.nx∧u.t.get 2=some (.ptr W 0)∧u.t.get 9=some v∧u.t.get 10=some (.int .i64 (L.length:Nat))∧∃(i:Nat) (l:List Hd) (s:List Mt) (hw sw:AV),u.t.get 11=some (.int .i64 (i:Nat))∧i≤L.length∧u.h.get W=some (.cells [hw,sw] true false)∧Hs (K9 W) u.h hw l∧Ms (K9 W) u.h sw s∧InvX 0 (20*i) l∧SB (120+i) s∧k=L.length-i) ?_ L.length ?_) ?_
 ·rintro k ⟨tt,g,d⟩ ⟨e2,e1,hW,t2,t9,t10,i,l,s,hw,sw,t11,hi,b0,hH,hM,hI,hB,rfl⟩
  dsimp only at e1 e2 hW t2 t9 t10 t11 b0 hH hM
  subst e2
  by_cases c4:(i:Int)<(L.length:Nat)
  ·have hil:i<L.length:=by omega
   obtain ⟨x,hx⟩:∃x,L[i]? = some x:=⟨_,List.getElem?_eq_getElem hil⟩
   have hxl:=hall x (List.mem_of_getElem? hx)
   obtain ⟨id,off,cc,cs,o,t,ev,hgi,hidl,hk,hle,hE,_⟩:=Sl.at hL hx
   subst ev
   have hgx:=(e1.get id (by omega)).trans hgi
   generalize hC:(cs.drop (off+i*30)).take 30=C at hE
   obtain ⟨lhw,shw,ohw⟩:=hH.ln
   obtain ⟨lsw,ssw,osw⟩:=hM.ln
   have mhw:=oneM ohw
   have msw:=oneM osw
   have cl:C.length=30:=by obtain ⟨_,_,_,_,_,_,e,_⟩:=hE;rw [e];rfl
   have hco:C.all oneA=true:=by
    obtain ⟨v1,d1,v2,d2,rw',rv,e,h1,h2,h3,h4,h5,h6,h7,h8⟩:=hE
    rw [e]
    simp only [List.all_cons,List.all_nil,h1.ln.2.2.2,h2.ln.2.2,h4.ln.2.2.2,h5.ln.2.2,h7.ln.2.2,h8.ln.2.2,Bool.true_and,Bool.and_true]
    simp [oneA]
   have ct:C.take 30=C:=List.take_of_length_le (by omega)
   have cl30:30≤C.length:=by omega
   simp (maxSteps:=9^9) -dsimp (disch:=repeat first|rw [nxn]|rw [nxp]|omega) only [go_sem,c4,t2,t9,t10,t11,hil,hgx,hle,hC,cl,cl30,hco,ct,b0,ohw,osw,mhw,msw]
   have f1:Fr g ((g.new (.cells [AV.int IntKind.i64 0,AV.int IntKind.i64 0,AV.int IntKind.i64 0,AV.int IntKind.i64 0,AV.str [],AV.str [],AV.int IntKind.i64 0,AV.str [],AV.str [],AV.str [],AV.nilsl,AV.int IntKind.i64 0,AV.bool false,AV.int IntKind.i64 0,AV.int IntKind.i64 0,AV.nilsl,AV.str [],AV.str [],AV.nilsl,AV.int IntKind.i64 0,AV.bool false,AV.int IntKind.i64 0,AV.int IntKind.i64 0,AV.nilsl,AV.int IntKind.i64 0,AV.str [],AV.int IntKind.i64 0,AV.int IntKind.i64 0,AV.nilsl,AV.nilsl] true false)).put g.nx (.cells C true false)):=(Fr.new _ _).put _ (Nat.le_refl _)
   have n1:((g.new (.cells [AV.int IntKind.i64 0,AV.int IntKind.i64 0,AV.int IntKind.i64 0,AV.int IntKind.i64 0,AV.str [],AV.str [],AV.int IntKind.i64 0,AV.str [],AV.str [],AV.str [],AV.nilsl,AV.int IntKind.i64 0,AV.bool false,AV.int IntKind.i64 0,AV.int IntKind.i64 0,AV.nilsl,AV.str [],AV.str [],AV.nilsl,AV.int IntKind.i64 0,AV.bool false,AV.int IntKind.i64 0,AV.int IntKind.i64 0,AV.nilsl,AV.int IntKind.i64 0,AV.str [],AV.int IntKind.i64 0,AV.int IntKind.i64 0,AV.nilsl,AV.nilsl] true false)).put g.nx (.cells C true false)).nx=g.nx+1:=rfl
   generalize (g.new (.cells [AV.int IntKind.i64 0,AV.int IntKind.i64 0,AV.int IntKind.i64 0,AV.int IntKind.i64 0,AV.str [],AV.str [],AV.int IntKind.i64 0,AV.str [],AV.str [],AV.str [],AV.nilsl,AV.int IntKind.i64 0,AV.bool false,AV.int IntKind.i64 0,AV.int IntKind.i64 0,AV.nilsl,AV.str [],AV.str [],AV.nilsl,AV.int IntKind.i64 0,AV.bool false,AV.int IntKind.i64 0,AV.int IntKind.i64 0,AV.nilsl,AV.int IntKind.i64 0,AV.str [],AV.int IntKind.i64 0,AV.int IntKind.i64 0,AV.nilsl,AV.nilsl] true false)).put g.nx (.cells C true false)=g1 at f1 n1 ⊢
   have b1:=(f1.get W hW).trans b0
   have top1:∀j,g1.nx≤j→K9 W j=0:=fun j hj=>K9_ne (by omega)
   have hE1:=((hE.col (K':=K9 W) fun j hj _=>K9_ne (by omega)).fr e1).fr f1
   have hsz:=hxl.sz
   refine callK_of (stepC hS (invX 0) top1 (K9_or W) (hH.fr f1) (hM.fr f1) hE1 hI hB (by omega) (by omega) (hsz.1.mono (by omega)) hsz.2) ?_
   rintro r g2 ⟨hw',sw',l',s',why,rfl,hH2,hM2,f2,hok,hno,_⟩
   have n2:=f2.nx
   have b2:=(f2.get W (by omega)).trans b1
   have e2:=(e1.trans f1).trans f2
   have ohw':=hH2.ln.2.2
   have osw':=hM2.ln.2.2
   have mhw':=oneM ohw'
   have msw':=oneM osw'
   have hW9:K9 W W≠0:=by rw [K9_eq];decide
   have f3:Fr g2 ((g2.new (.cells [.nilsl,.nilsl] true false)).put g2.nx (.cells [hw',sw'] true false)):=(Fr.new _ _).put _ (Nat.le_refl _)
   have q3:((g2.new (.cells [.nilsl,.nilsl] true false)).put g2.nx (.cells [hw',sw'] true false)).get g2.nx=some (.cells [hw',sw'] true false):=AH.get_put_eq rfl
   have n3:((g2.new (.cells [.nilsl,.nilsl] true false)).put g2.nx (.cells [hw',sw'] true false)).nx=g2.nx+1:=rfl
   by_cases hw0:why=0
   ·have hwb:decide (why=0)=true:=decide_eq_true hw0
    simp (maxSteps:=9^9) -dsimp (disch:=repeat first|rw [nxn]|rw [nxp]|omega) only [go_sem,hwb,t2,t9,t10,t11,b2,ohw',osw',mhw',msw']
    generalize (g2.new (.cells [.nilsl,.nilsl] true false)).put g2.nx (.cells [hw',sw'] true false)=g3 at f3 q3 n3 ⊢
    have gk:Gk (K9 W) g3 (g3.put W (.cells [hw',sw'] true false)):=(Gk.refl _ _).put (.inl hW9) _
    have hok:=hok hw0
    exact ⟨L.length-(i+1),by omega,trivial,((e2.trans f3).put _ (by omega)),trivial,trivial,trivial,trivial,i+1,l',s',hw',sw',rfl,by omega,rfl,(hH2.fr f3).gk gk,(hM2.fr f3).gk gk,(invX 0).mono _ _ _ hok.1 (by omega),hok.2,rfl⟩
   ·have hwb:decide (why=0)=false:=decide_eq_false hw0
    have b3:=(f3.get W (by omega)).trans b2
    simp (maxSteps:=9^9) -dsimp (disch:=repeat first|rw [nxn]|rw [nxp]|omega) only [go_sem,hwb,t2,t9,t10,t11,b3,ohw,osw,mhw,msw,ohw',osw',mhw',msw']
    generalize (g2.new (.cells [.nilsl,.nilsl] true false)).put g2.nx (.cells [hw',sw'] true false)=g3 at f3 q3 n3 b3 ⊢
    have gk:Gk (K9 W) g3 (g3.put W (.cells [hw,sw] true false)):=(Gk.refl _ _).put (.inl hW9) _
    have e4:=(f1.trans f2).trans f3
    exact ⟨trivial,((e1.trans e4).put _ (by omega)),trivial,trivial,⟨l,s,hw,sw,rfl,(hH.fr e4).gk gk,(hM.fr e4).gk gk,(invX 0).mono _ _ _ hI (by omega),hB.mono (by omega)⟩,.inr ⟨trivial,_,_,rfl,rfl⟩⟩
  ·obtain rfl:i=L.length:=by omega
   simp (maxSteps:=9^9) -dsimp (disch:=repeat first|rw [nxn]|rw [nxp]|omega) only [go_sem,c4,t2,t9,t10,t11]
   exact ⟨trivial,e1,hW,trivial,⟨l,s,hw,sw,b0,hH,hM,hI,hB⟩,.inl trivial⟩
 ·simp (maxSteps:=9^9) -dsimp (disch:=repeat first|rw [nxn]|rw [nxp]|omega) only [go_sem]
  exact ⟨trivial,f0,by omega,trivial,trivial,trivial,0,[],[],.nilsl,.nilsl,rfl,Nat.zero_le _,q0,⟨.inl ⟨rfl,rfl⟩,Nat.zero_le _⟩,⟨.inl ⟨rfl,rfl⟩,Nat.zero_le _⟩,⟨Nat.le_refl _,Nat.le_refl _,Nat.le_refl _,.nil,fun x hx=>(by cases hx)⟩,⟨Nat.zero_le _,fun m hm=>(by cases hm)⟩,rfl⟩
 ·rintro ex ⟨tt,g,q⟩ ⟨rfl,e1,hW,t2,⟨l,s,hw,sw,b0,hH,hM,hI,hB⟩,rfl | ⟨rfl,a,b,t3,t4⟩⟩
  ·dsimp only at e1 hW t2 b0 hH hM
   have ohw:=hH.ln.2.2
   have osw:=hM.ln.2.2
   have mhw:=oneM ohw
   have msw:=oneM osw
   simp (maxSteps:=9^9) -dsimp (disch:=repeat first|rw [nxn]|rw [nxp]|omega) only [go_sem,t2,b0,ohw,osw,mhw,msw]
   have hW9:K9 W W≠0:=by rw [K9_eq];decide
   have gk:Gk (K9 W) g (g.put W (.cells [hw,sw] true false)):=(Gk.refl _ _).put (.inl hW9) _
   exact ⟨⟨hw,sw,l,s,_,_,rfl,(hH.gk gk).col fun _ _ _=>rfl,(hM.gk gk).col fun _ _ _=>rfl,hI,hB⟩,e1.put _ (by omega)⟩
  ·dsimp only at e1 hW t2 b0 hH hM t3 t4
   have ohw:=hH.ln.2.2
   have osw:=hM.ln.2.2
   have mhw:=oneM ohw
   have msw:=oneM osw
   simp (maxSteps:=9^9) -dsimp (disch:=repeat first|rw [nxn]|rw [nxp]|omega) only [go_sem,t2,t3,t4,b0,ohw,osw,mhw,msw]
   exact ⟨⟨hw,sw,l,s,a,b,rfl,hH.col fun _ _ _=>rfl,hM.col fun _ _ _=>rfl,hI,hB⟩,e1⟩
end
theorem any_fold (r:Rc):∀(L acc:List Rc),((L.foldl addF acc).any fun x=>sameR x r)=((acc.any fun x=>sameR x r)||L.any fun x=>sameR x r)
 | [],acc=>by simp
 | x::L,acc=>by
  rw [List.foldl_cons,any_fold r L,List.any_cons]
  unfold addF
  split
  ·rename_i h
   rw [List.any_eq_true] at h
   obtain ⟨y,hy,he⟩:=h
   have he:=sameR_iff.1 he
   subst he
   cases hs:sameR y r
   ·simp
   ·have:(acc.any fun x=>sameR x r)=true:=List.any_eq_true.2 ⟨y,hy,hs⟩
    simp [this]
  ·rw [List.any_append]
   simp [Bool.or_assoc]
theorem fold_nil:∀(L acc:List Rc),L.foldl addF acc=[]→acc=[]∧L=[]
 | [],acc,h=>⟨h,rfl⟩
 | x::L,acc,h=>by
  rw [List.foldl_cons] at h
  have h1:=(fold_nil L _ h).1
  unfold addF at h1
  split at h1
  ·rename_i h2
   rw [h1] at h2
   cases h2
  ·simp at h1
theorem versF_len (f q:List Nat):∀l:List Hd,(versF l f q).length≤totP l
 | []=>by simp [versF,totP]
 | x::l=>by
  have:=versF_len f q l
  unfold versF totP at *
  rw [List.flatMap_cons,List.length_append,List.map_cons,List.sum_cons]
  split
  ·omega
  ·simp only [List.length_nil];omega
theorem mem_versF {l:List Hd} {y:Hd} {p:Rc} (hy:y∈l) (hp:p∈y.past):p∈versF l y.folder y.path:=by
 unfold versF
 exact List.mem_flatMap.2 ⟨y,hy,by rw [if_pos ⟨rfl,rfl⟩];exact hp⟩
def seT (d:Int) (r:Rc):Se:=⟨2,d,0,0,[],[],3,[102],[],r,[],rc0,0,[],0,⟨0,[]⟩,[]⟩
theorem bldDid {r:Rc} {v e:AV} (ov:oneA v=true) (oe:oneA e=true):evBuild Tryz.prog 38 [(0,.int .i64 3),(1,.str (bytesOf { data:=#[102] })),(3,.agg [.str r.path,v,.int .i64 r.own,.bool r.gone,.int .i64 r.size,.int .i64 r.len,e])]=some (.agg [.int .i64 3,.str [102],.str [],.str r.path,v,.int .i64 r.own,.bool r.gone,.int .i64 r.size,.int .i64 r.len,e,.str [],.str [],.nilsl,.int .i64 0,.bool false,.int .i64 0,.int .i64 0,.nilsl]):=by
 kernel_rfl
theorem bldSeen {r:Rc} {v e:AV} (d:Int) (ov:oneA v=true) (oe:oneA e=true):evBuild Tryz.prog 46 [(0,.int .i64 2),(1,.int .i64 d),(6,.agg [.int .i64 3,.str [102],.str [],.str r.path,v,.int .i64 r.own,.bool r.gone,.int .i64 r.size,.int .i64 r.len,e,.str [],.str [],.nilsl,.int .i64 0,.bool false,.int .i64 0,.int .i64 0,.nilsl])]=some (.agg [.int .i64 2,.int .i64 d,.int .i64 0,.int .i64 0,.str [],.str [],.int .i64 3,.str [102],.str [],.str r.path,v,.int .i64 r.own,.bool r.gone,.int .i64 r.size,.int .i64 r.len,e,.str [],.str [],.nilsl,.int .i64 0,.bool false,.int .i64 0,.int .i64 0,.nilsl,.int .i64 0,.str [],.int .i64 0,.int .i64 0,.nilsl,.nilsl]):=by
 kernel_rfl
section
variable {S : Sums}
theorem tookS (hS:Nx S) {K:Nat→Nat} {h:AH} {cr:List AV} {r:Rc} (d:Int) (hr:Ra K h cr r):RnC Tryz.prog S 15 [.int .i64 d,.agg cr] h fun v h'=>(∃C,v=.agg C∧Sa K h' C (seT d r))∧Fr h h':=by
 have hr0:=hr
 obtain ⟨v,e,rfl,hv,he,hp⟩:=hr
 have ov:=hv.ln.2.2.2
 have oe:=he.ln.2.2
 have mv:=oneM ov
 have me:=oneM oe
 refine RnC.enter' Tryz.f15 _ 9 [.cell 4 46] (hS.nx8 _ _ _ (by simp)) bd15 Tryz.func15 rfl rfl rfl ?_
 have b1:=bldDid (r:=r) ov oe
 have b2:=bldSeen (r:=r) d ov oe
 simp -dsimp (disch:=repeat first|rw [nxn]|rw [nxp]|omega) only [go_sem,ov,oe,mv,me,b1,b2]
 refine ⟨⟨_,rfl,v,e,.nilsl,.nilsl,.nilsl,.nilsl,rfl,hv.fr (((Fr.new _ _).news _).put _ (Nat.le_succ _)),he.fr (((Fr.new _ _).news _).put _ (Nat.le_succ _)),hp,⟨.inl ⟨rfl,rfl⟩,Nat.zero_le _⟩,⟨.inl ⟨rfl,rfl⟩,Nat.zero_le _⟩,Nat.zero_le _,⟨.inl ⟨rfl,rfl⟩,Nat.zero_le _⟩,⟨.inl ⟨rfl,rfl⟩,Nat.zero_le _⟩⟩,((Fr.new _ _).news _).put _ (Nat.le_succ _)⟩
end
section
variable {S : Sums}
theorem knowsL (hS:Nz S) {h:AH} {v:AV} {L:List Se} {cr:List AV} {r:Rc} (dv:Int) (hv:Sl (fun _=>0) 30 (SaU h) h v L) (hr:RaU h cr r):RnC Tryz.prog S 4 [v,.agg cr,.int .i64 dv] h fun r _=>r=.bool true:=by
 have hr0:=hr
 obtain ⟨rv,rd,rfl,hrv,hrd⟩:=hr
 have orv:=hrv.one.2
 have ord:=hrd.one.2
 have mrv:=oneM orv
 have mrd:=oneM ord
 refine RnC.enter' Tryz.f4 _ 118 [.tmp 6] (hS.nz27 _ _ _ (by simp)) bd4 Tryz.func4 rfl rfl rfl ?_
 have lv:=fun g=>Sl.len (P:=Tryz.prog) hv Tryz.underlying22 g
 have ov:=hv.one.2
 have mv:=oneM ov
 simp -dsimp (disch:=repeat first|rw [nxn]|rw [nxp]|omega) only [go_sem,ov,mv,orv,ord,mrv,mrd]
 have fb:Fr h (h.new (.cells [.str r.path,rv,.int .i64 r.own,.bool r.gone,.int .i64 r.size,.int .i64 r.len,rd] true false)):=Fr.new _ _
 have qb:(h.new (.cells [.str r.path,rv,.int .i64 r.own,.bool r.gone,.int .i64 r.size,.int .i64 r.len,rd] true false)).get h.nx=some (.cells [.str r.path,rv,.int .i64 r.own,.bool r.gone,.int .i64 r.size,.int .i64 r.len,rd] true false):=AH.get_new_eq rfl
 have nb:(h.new (.cells [.str r.path,rv,.int .i64 r.own,.bool r.gone,.int .i64 r.size,.int .i64 r.len,rd] true false)).nx=h.nx+1:=rfl
 generalize h.new (.cells [.str r.path,rv,.int .i64 r.own,.bool r.gone,.int .i64 r.size,.int .i64 r.len,rd] true false)=g0 at fb qb nb ⊢
 refine callK_of (RnC.sum (hS.lives _) (Q:=fun r h'=>r=.bool true∧h'=g0) ⟨rfl,rfl⟩) ?_
 rintro _ g1 ⟨rfl,rfl⟩
 have hv1:=hv.gk (fb.gk _) fun _ _ hx=>SaU.fr hx fb
 simp -dsimp (disch:=repeat first|rw [nxn]|rw [nxp]|omega) only [go_sem,ov,mv]
 refine callK_of (lightSeensC hS.toNx hv1) ?_
 rintro _ g2 ⟨⟨b,rfl,hb⟩,f2⟩
 cases b
 ·simp -dsimp (disch:=repeat first|rw [nxn]|rw [nxp]|omega) only [go_sem]
 obtain ⟨hL60,hall⟩:=hb rfl
 have qb2:=(f2.get _ (by omega)).trans qb
 simp -dsimp (disch:=repeat first|rw [nxn]|rw [nxp]|omega) only [go_sem,qb2,orv,ord,mrv,mrd]
 refine callK_of (lightRC hS.toNx ((hr0.fr fb).fr f2)) ?_
 rintro _ g3 ⟨rfl,f3⟩
 cases hlr:lightR r
 ·simp -dsimp (disch:=repeat first|rw [nxn]|rw [nxp]|omega) only [go_sem,hlr]
 have f13:=f2.trans f3
 have n13:=f13.nx
 have qb3:=(f13.get _ (by omega)).trans qb
 have hra:=((hr0.fr fb).fr f13).ra hlr
 have hL:Sl (fun _=>0) 30 (Sa (fun _=>0) g3) g3 v L:=sl_on (hv1.gk (f13.gk _) fun _ _ hx=>SaU.fr hx f13) fun cs x hx h=>SaU.sa h (hall x hx)
 simp -dsimp (disch:=repeat first|rw [nxn]|rw [nxp]|omega) only [go_sem,hlr,ov,mv]
 refine callK_of (runC hS.toNw hL hL60 hall) ?_
 rintro _ g4 ⟨⟨hw,sw,l,s,a,b,rfl,hH,hM,hI,hB⟩,f4⟩
 have n4:=f4.nx
 have qb4:=(f4.get _ (by omega)).trans qb3
 obtain ⟨lhw,shw,ohw⟩:=hH.ln
 obtain ⟨lsw,ssw,osw⟩:=hM.ln
 have mhw:=oneM ohw
 have msw:=oneM osw
 have sg:=sag2 hH hM
 simp -dsimp (disch:=repeat first|rw [nxn]|rw [nxp]|omega) only [go_sem,ohw,osw,mhw,msw]
 have f5:Fr g4 ((g4.new (.cells [.nilsl,.nilsl] true false)).put g4.nx (.cells [hw,sw] true false)):=(Fr.new _ _).put _ (Nat.le_refl _)
 have q5:((g4.new (.cells [.nilsl,.nilsl] true false)).put g4.nx (.cells [hw,sw] true false)).get g4.nx=some (.cells [hw,sw] true false):=AH.get_put_eq rfl
 have n5:((g4.new (.cells [.nilsl,.nilsl] true false)).put g4.nx (.cells [hw,sw] true false)).nx=g4.nx+1:=rfl
 generalize (g4.new (.cells [.nilsl,.nilsl] true false)).put g4.nx (.cells [hw,sw] true false)=g5 at f5 q5 n5 ⊢
 have qb5:=(f5.get _ (by omega)).trans qb4
 have hH5:=hH.fr f5
 have hM5:=hM.fr f5
 have hra5:=(hra.fr f4).fr f5
 generalize hWe:g4.nx=W at q5 n5 ⊢
 generalize hBe:h.nx=Bx at qb5 ⊢
 have hBW:Bx<W:=by omega
 refine loopK_of (RnL.rounds (Q:=fun ex u=>u.d=[]∧ex=.exit 0∧Fr g5 u.h∧u.t.get 2=some (.int .i64 dv)∧u.t.get 4=some (.ptr Bx 0)∧u.t.get 7=some (.ptr W 0))
  (fun k u=>u.d=[]∧Fr g5 u.h∧u.t.get 2=some (.int .i64 dv)∧u.t.get 4=some (.ptr Bx 0)∧u.t.get 7=some (.ptr W 0)∧∃n:Nat,u.t.get 10=some (.int .i64 (n:Nat))∧n≤l.length∧k=l.length-n) ?_ l.length ?_) ?_
 ·rintro k ⟨tt,gg,dd⟩ ⟨w2,w1,t2,t4,t7,n,t10,hn,rfl⟩
  dsimp only at w1 w2 t2 t4 t7 t10
  subst w2
  have qW:=(w1.get _ (by omega)).trans q5
  by_cases c4:(n:Int)<(l.length:Nat)
  ·have hnl:n<l.length:=by omega
   have hnb:n<1000000:=by have:=hI.hi;omega
   obtain ⟨y,hy⟩:∃y,l[n]? = some y:=⟨_,List.getElem?_eq_getElem hnl⟩
   have hym:=List.mem_of_getElem? hy
   have hyo:=hI.ok y hym
   obtain ⟨iy,oy,cy,csy,oo,ty,nv,nd,pv,hvv,hgi,hidl,hley,hEy,hnv,hnd,hnp,hpv,_⟩:=hH5.el hy
   subst hvv
   have hgi:=(w1.get _ hidl).trans hgi
   have onv:=hnv.ln.2.2.2
   have ond:=hnd.ln.2.2
   obtain ⟨lpv,spv,opv⟩:=hpv.ln
   have mnv:=oneM onv
   have mnd:=oneM ond
   have mpv:=oneM opv
   have hpl:=hyo.pl
   have fY:Fr gg ((gg.new (.cells [.int .i64 0,.str [],.str [],.str [],.nilsl,.int .i64 0,.bool false,.int .i64 0,.int .i64 0,.nilsl,.nilsl,.int .i64 0] true false)).put gg.nx (.cells [.int .i64 y.dev,.str y.folder,.str y.path,.str y.now.path,nv,.int .i64 y.now.own,.bool y.now.gone,.int .i64 y.now.size,.int .i64 y.now.len,nd,pv,.int .i64 (y.start:Nat)] true false)):=(Fr.new _ _).put _ (Nat.le_refl _)
   have qY:((gg.new (.cells [.int .i64 0,.str [],.str [],.str [],.nilsl,.int .i64 0,.bool false,.int .i64 0,.int .i64 0,.nilsl,.nilsl,.int .i64 0] true false)).put gg.nx (.cells [.int .i64 y.dev,.str y.folder,.str y.path,.str y.now.path,nv,.int .i64 y.now.own,.bool y.now.gone,.int .i64 y.now.size,.int .i64 y.now.len,nd,pv,.int .i64 (y.start:Nat)] true false)).get gg.nx=some (.cells [.int .i64 y.dev,.str y.folder,.str y.path,.str y.now.path,nv,.int .i64 y.now.own,.bool y.now.gone,.int .i64 y.now.size,.int .i64 y.now.len,nd,pv,.int .i64 (y.start:Nat)] true false):=AH.get_put_eq rfl
   have nY:((gg.new (.cells [.int .i64 0,.str [],.str [],.str [],.nilsl,.int .i64 0,.bool false,.int .i64 0,.int .i64 0,.nilsl,.nilsl,.int .i64 0] true false)).put gg.nx (.cells [.int .i64 y.dev,.str y.folder,.str y.path,.str y.now.path,nv,.int .i64 y.now.own,.bool y.now.gone,.int .i64 y.now.size,.int .i64 y.now.len,nd,pv,.int .i64 (y.start:Nat)] true false)).nx=gg.nx+1:=rfl
   have w15:=w1.nx
   by_cases hp:y.now.path=[]
   case' pos =>
    have hne:∀g,binA Tryz.prog g .neq 9 (.str y.now.path) (.str [])=some (.bool false):=fun g=>by rw [neStr];simp [hp]
    have hne2:∀g,binA Tryz.prog g .neq 9 (.str y.now.path) (.str (bytesOf { data:=#[] }))=some (.bool false):=hne
    simp -dsimp (disch:=repeat first|rw [nxn]|rw [nxp]|omega) only [go_sem,c4,t2,t4,t7,t10,qW,hnl,hgi,hley,hEy,onv,ond,opv,mnv,mnd,mpv,lhw,lpv,ohw,osw,mhw,msw,hne,hne2]
    generalize (gg.new (.cells [.int .i64 0,.str [],.str [],.str [],.nilsl,.int .i64 0,.bool false,.int .i64 0,.int .i64 0,.nilsl,.nilsl,.int .i64 0] true false)).put gg.nx (.cells [.int .i64 y.dev,.str y.folder,.str y.path,.str y.now.path,nv,.int .i64 y.now.own,.bool y.now.gone,.int .i64 y.now.size,.int .i64 y.now.len,nd,pv,.int .i64 (y.start:Nat)] true false)=g6 at fY qY nY ⊢
    have fZ:=w1.trans fY
    have nZ:gg.nx<g6.nx:=by omega
    have qZ:=qY
   case' neg =>
    have hne:∀g,binA Tryz.prog g .neq 9 (.str y.now.path) (.str [])=some (.bool true):=fun g=>by rw [neStr];simp [hp]
    have hne2:∀g,binA Tryz.prog g .neq 9 (.str y.now.path) (.str (bytesOf { data:=#[] }))=some (.bool true):=hne
    have hnm:y.now∈y.past:=List.mem_of_getLast? (hyo.la hp)
    have hk0:((versF l y.folder y.now.path).any fun x=>sameR x y.now)=true:=List.any_eq_true.2 ⟨y.now,by rw [hyo.pp _ hnm];exact mem_versF hym hnm,sameR_iff.2 rfl⟩
    have qWY:=(fY.get _ (by omega)).trans qW
    simp -dsimp (disch:=repeat first|rw [nxn]|rw [nxp]|omega) only [go_sem,c4,t2,t4,t7,t10,qW,hnl,hgi,hley,hEy,onv,ond,opv,mnv,mnd,mpv,lhw,lpv,ohw,osw,mhw,msw,hne,hne2]
    refine callK_of (knowsC hS.toMp y.folder ((hH5.fr w1).fr fY) osw (⟨nv,nd,rfl,(hnv.fr w1).fr fY,(hnd.fr w1).fr fY,hnp⟩:Ra (fun _=>0) _ [.str y.now.path,nv,.int .i64 y.now.own,.bool y.now.gone,.int .i64 y.now.size,.int .i64 y.now.len,nd] y.now)) ?_
    rintro _ g6 ⟨rfl,f6⟩
    have n6:=f6.nx
    simp -dsimp (disch:=repeat first|rw [nxn]|rw [nxp]|omega) only [go_sem,hk0]
    have fZ:=(w1.trans fY).trans f6
    have nZ:gg.nx<g6.nx:=by omega
    have qZ:=(f6.get _ (by omega)).trans qY
   all_goals
    refine loopK_of (RnL.rounds (Q:=fun ex u=>u.d=[]∧ex=.exit 2∧Fr g5 u.h∧u.t.get 2=some (.int .i64 dv)∧u.t.get 4=some (.ptr Bx 0)∧u.t.get 7=some (.ptr W 0)∧u.t.get 10=some (.int .i64 (n:Nat)))
     (fun k u=>u.d=[]∧Fr g5 u.h∧gg.nx<u.h.nx∧u.h.get gg.nx=some (.cells [.int .i64 y.dev,.str y.folder,.str y.path,.str y.now.path,nv,.int .i64 y.now.own,.bool y.now.gone,.int .i64 y.now.size,.int .i64 y.now.len,nd,pv,.int .i64 (y.start:Nat)] true false)∧u.t.get 2=some (.int .i64 dv)∧u.t.get 4=some (.ptr Bx 0)∧u.t.get 7=some (.ptr W 0)∧u.t.get 10=some (.int .i64 (n:Nat))∧u.t.get 11=some (.ptr gg.nx 0)∧∃m:Nat,u.t.get 12=some (.int .i64 (m:Nat))∧m≤y.past.length∧k=y.past.length-m) ?_ y.past.length ?_) ?_
    ·rintro k ⟨tu,gu,du⟩ ⟨z2,z1,zn,zY,u2,u4,u7,u10,u11,m,u12,hm,rfl⟩
     dsimp only at z1 z2 zn zY u2 u4 u7 u10 u11 u12
     subst z2
     have qWu:=(z1.get _ (by omega)).trans q5
     by_cases c5:(m:Int)<(y.past.length:Nat)
     ·have hml:m<y.past.length:=by omega
      have hmb:m<1000000:=by have:=hI.hi;omega
      obtain ⟨p,hp'⟩:∃p,y.past[m]? = some p:=⟨_,List.getElem?_eq_getElem hml⟩
      have hpm:=List.mem_of_getElem? hp'
      obtain ⟨ip,op,cp,csp,oop,tp,evp,hgp,hipl,_,hlep,hEp,_⟩:=Sl.at hpv.1 hp'
      subst evp
      have hgp:=(z1.get ip hipl).trans hgp
      have hEu:=hEp.fr z1
      generalize hcp:(csp.drop (op+m*7)).take 7=cp7 at hEu
      have hs2:=hEu.sv
      have hk:((versF l y.folder p.path).any fun x=>sameR x p)=true:=List.any_eq_true.2 ⟨p,by rw [hyo.pp p hpm];exact mem_versF hym hpm,sameR_iff.2 rfl⟩
      simp -dsimp (disch:=repeat first|rw [nxn]|rw [nxp]|omega) only [go_sem,c5,u2,u4,u7,u10,u11,u12,zY,onv,ond,opv,mnv,mnd,mpv,lpv]
      refine syDraw.keep (fun j=>j=W∨j=gg.nx∨j=ip) (by kernel_rfl) (by kernel_rfl) ?_
      have fB:Fr gu { tr:=gu.tr,nx:=gu.nx+10 }:=(Fr.refl gu).more _ (by omega)
      simp -dsimp (disch:=repeat first|rw [nxn]|rw [nxp]|omega) only [go_sem,qWu,u2,u4,u7,u10,u11,u12,zY,hml,hgp,hlep,hcp,hs2,sg,onv,ond,opv,mnv,mnd,mpv,spv,ohw,osw,mhw,msw,true_and,true_or,or_true,implies_true,svi,svb,svs,svp]
      refine callK_of (knowsC hS.toMp y.folder ((hH5.fr z1).fr fB) osw (hEu.fr fB)) ?_
      rintro _ gv ⟨rfl,fv⟩
      have nv':gu.nx+10≤gv.nx:=fv.nx
      have fuv:=fB.trans fv
      refine ⟨fun j hj=>fuv.get j (by have:=z1.nx;rcases hj with rfl | rfl | rfl <;> omega),?_⟩
      simp -dsimp (disch:=repeat first|rw [nxn]|rw [nxp]|omega) only [go_sem,hk,u2,u4,u7,u10,u11,u12,true_and,true_or,or_true,implies_true,svi,svb,svs,svp]
      exact ⟨y.past.length-(m+1),by omega,z1.trans fuv,by omega,(fuv.get _ (by omega)).trans zY,m+1,rfl,by omega,rfl⟩
     ·obtain rfl:m=y.past.length:=by omega
      simp -dsimp (disch:=repeat first|rw [nxn]|rw [nxp]|omega) only [go_sem,c5,u2,u4,u7,u10,u11,u12,zY,onv,ond,opv,mnv,mnd,mpv,lpv]
      exact ⟨trivial,trivial,z1,trivial,trivial,trivial,trivial⟩
    ·simp -dsimp (disch:=repeat first|rw [nxn]|rw [nxp]|omega) only [go_sem,t2,t4,t7,t10]
     exact ⟨trivial,fZ,nZ,qZ,trivial,trivial,trivial,trivial,trivial,0,rfl,Nat.zero_le _,rfl⟩
    ·rintro ex ⟨tu,gu,du⟩ ⟨rfl,rfl,z1,u2,u4,u7,u10⟩
     dsimp only at z1 u2 u4 u7 u10
     simp -dsimp (disch:=repeat first|rw [nxn]|rw [nxp]|omega) only [go_sem,u2,u4,u7,u10]
     exact ⟨l.length-(n+1),by omega,trivial,z1,trivial,trivial,trivial,n+1,rfl,by omega,rfl⟩
  ·obtain rfl:n=l.length:=by omega
   simp -dsimp (disch:=repeat first|rw [nxn]|rw [nxp]|omega) only [go_sem,c4,t2,t4,t7,t10,qW,lhw,ohw,osw,mhw,msw]
   exact ⟨trivial,trivial,w1,trivial,trivial,trivial⟩
 ·simp -dsimp (disch:=repeat first|rw [nxn]|rw [nxp]|omega) only [go_sem]
  exact ⟨trivial,Fr.refl _,trivial,trivial,trivial,0,rfl,Nat.zero_le _,rfl⟩
 ·rintro ex ⟨tt,gg,dd⟩ ⟨rfl,rfl,w1,t2,t4,t7⟩
  dsimp only at w1 t2 t4 t7
  have w15:=w1.nx
  have qW:=(w1.get _ (by omega)).trans q5
  have qB:=(w1.get _ (by omega)).trans qb5
  have hra6:=hra5.fr w1
  have sR:=hra6.sv
  simp -dsimp (disch:=repeat first|rw [nxn]|rw [nxp]|omega) only [go_sem,t2,t4,t7,qW,qB,ohw,osw,mhw,msw,orv,ord,mrv,mrd]
  refine callK_of (versionsC hS.toMp [102] r.path (hH5.fr w1) osw (by have:=versF_len [102] r.path l;have:=hI.tot;omega)) ?_
  rintro vv g6 ⟨hV,f6⟩
  generalize hVe:(versF l [102] r.path).foldl addF []=V at hV
  have hany:(V.any fun x=>sameR x r)=((versF l [102] r.path).any fun x=>sameR x r):=by rw [←hVe,any_fold];simp
  obtain ⟨lV,sV,oV⟩:=hV.ln
  have mV:=oneM oV
  have hVl:=hV.2
  have n6:=f6.nx
  have f56:=w1.trans f6
  have hr6:=hra6.fr f6
  have qB6:=(f6.get Bx (by omega)).trans qB
  have qW6:=(f6.get W (by omega)).trans qW
  try simp -dsimp (disch:=repeat first|rw [nxn]|rw [nxp]|omega) only [go_sem,t2,t4,t7,oV,mV,lV]
  refine loopK_of (RnL.rounds (Q:=fun ex u=>u.d=[]∧ex=.exit 4∧Fr g6 u.h∧u.t.get 2=some (.int .i64 dv)∧u.t.get 4=some (.ptr Bx 0)∧u.t.get 7=some (.ptr W 0)∧u.t.get 13=some vv∧u.t.get 14=some (.bool (V.any fun x=>sameR x r)))
   (fun k u=>u.d=[]∧Fr g6 u.h∧u.t.get 2=some (.int .i64 dv)∧u.t.get 4=some (.ptr Bx 0)∧u.t.get 7=some (.ptr W 0)∧u.t.get 13=some vv∧∃m:Nat,u.t.get 15=some (.int .i64 (m:Nat))∧m≤V.length∧u.t.get 14=some (.bool ((V.take m).any fun x=>sameR x r))∧k=V.length-m) ?_ V.length ?_) ?_
  ·rintro k ⟨tu,gu,du⟩ ⟨z2,z1,u2,u4,u7,u13,m,u15,hm,u14,rfl⟩
   dsimp only at z1 z2 u2 u4 u7 u13 u14 u15
   subst z2
   by_cases c5:(m:Int)<(V.length:Nat)
   ·have hml:m<V.length:=by omega
    have hmb:m<1000000:=by omega
    obtain ⟨p,hp'⟩:∃p,V[m]? = some p:=⟨_,List.getElem?_eq_getElem hml⟩
    have hts:((V.take (m+1)).any fun x=>sameR x r)=((V.take m).any (fun x=>sameR x r)||sameR p r):=by
     rw [List.take_add_one,hp',List.any_append]
     simp
    obtain ⟨ip,op,cp,csp,oop,tp,evp,hgp,hipl,_,hlep,hEp,_⟩:=Sl.at hV.1 hp'
    subst evp
    have hgp:=(z1.get ip hipl).trans hgp
    have hEu:=hEp.fr z1
    generalize hcp:(csp.drop (op+m*7)).take 7=cp7 at hEu
    have hs2:=hEu.sv
    have qBu:=(z1.get Bx (by omega)).trans qB6
    have fB:Fr gu { tr:=gu.tr,nx:=gu.nx+10 }:=(Fr.refl gu).more _ (by omega)
    simp -dsimp (disch:=repeat first|rw [nxn]|rw [nxp]|omega) only [go_sem,c5,u2,u4,u7,u13,u14,u15,oV,mV,lV]
    refine syDraw.keep (fun j=>j=ip∨j=Bx) (by kernel_rfl) (by kernel_rfl) ?_
    cases hb:(V.take m).any fun x=>sameR x r
    ·rw [hb] at u14
     simp -dsimp (disch:=repeat first|rw [nxn]|rw [nxp]|omega) only [go_sem,u2,u4,u7,u13,u14,u15,hml,hgp,hlep,hcp,hs2,qBu,sR,orv,ord,mrv,mrd,oV,mV,sV,true_and,true_or,or_true,implies_true,svi,svb,svs,svp]
     refine callK_of (rSameX hS.toNx (hEu.fr fB) ((hr6.fr z1).fr fB)) ?_
     rintro _ gv ⟨rfl,fv⟩
     have fuv:=fB.trans fv
     refine ⟨fun j hj=>fuv.get j (by have:=z1.nx;rcases hj with rfl | rfl <;> omega),?_⟩
     try simp -dsimp (disch:=repeat first|rw [nxn]|rw [nxp]|omega) only [go_sem,u2,u4,u7,u13,u15,true_and,true_or,or_true,implies_true,svi,svb,svs,svp]
     exact ⟨V.length-(m+1),by omega,z1.trans fuv,m+1,rfl,by omega,by rw [hts,hb];rfl,rfl⟩
    ·rw [hb] at u14
     simp -dsimp (disch:=repeat first|rw [nxn]|rw [nxp]|omega) only [go_sem,u2,u4,u7,u13,u14,u15,true_and,true_or,or_true,implies_true,svi,svb,svs,svp]
     exact ⟨V.length-(m+1),by omega,z1.more _ (by omega),m+1,rfl,by omega,by rw [hts,hb];rfl,rfl⟩
   ·obtain rfl:m=V.length:=by omega
    rw [List.take_length] at u14
    simp -dsimp (disch:=repeat first|rw [nxn]|rw [nxp]|omega) only [go_sem,c5,u2,u4,u7,u13,u14,u15,oV,mV,lV]
    exact ⟨trivial,trivial,z1,trivial,trivial,trivial,trivial,trivial⟩
  ·simp -dsimp (disch:=repeat first|rw [nxn]|rw [nxp]|omega) only [go_sem,t2,t4,t7]
   exact ⟨trivial,Fr.refl _,trivial,trivial,trivial,trivial,0,rfl,Nat.zero_le _,by simp,rfl⟩
  ·rintro ex ⟨tu,gu,du⟩ ⟨rfl,rfl,z1,u2,u4,u7,u13,u14⟩
   dsimp only at z1 u2 u4 u7 u13 u14
   have z15:=z1.nx
   have qWu:=(z1.get W (by omega)).trans qW6
   have qBu:=(z1.get Bx (by omega)).trans qB6
   have hru:=hr6.fr z1
   have hHu:=((hH5.fr w1).fr f6).fr z1
   have hMu:=((hM5.fr w1).fr f6).fr z1
   rw [hany] at u14
   have eb:∀(g:AH) (b:Bool),binA Tryz.prog g .neq 4 (.bool b) (.bool b)=some (.bool false):=fun g b=>by cases b <;> rfl
   simp -dsimp (disch:=repeat first|rw [nxn]|rw [nxp]|omega) only [go_sem,u2,u4,u7,u13,u14,qWu,qBu,ohw,osw,mhw,msw,orv,ord,mrv,mrd]
   refine callK_of (knowsC hS.toMp [102] hHu osw hru) ?_
   rintro _ g7 ⟨rfl,f7⟩
   have n7:=f7.nx
   have qW7:=(f7.get W (by omega)).trans qWu
   have qB7:=(f7.get Bx (by omega)).trans qBu
   by_cases hV0:V=[]
   ·have hvn:versF l [102] r.path=[]:=(fold_nil _ _ (hVe.trans hV0)).2
    have lV0:∀g,evLen Tryz.prog g #[44] vv=some (.int .i64 0):=fun g=>by rw [lV g,hV0];rfl
    simp -dsimp (disch:=repeat first|rw [nxn]|rw [nxp]|omega) only [go_sem,u2,u4,u7,u13,u14,eb,oV,mV,lV0]
    refine syDraw.keepN 9 (fun j=>j=W∨j=Bx) (by kernel_rfl) (by kernel_rfl) rfl ?_
    have fA:Fr g7 { tr:=g7.tr,nx:=g7.nx+11 }:=(Fr.refl g7).more _ (by omega)
    simp -dsimp (disch:=repeat first|rw [nxn]|rw [nxp]|omega) only [go_sem,u2,u4,u7,qW7,qB7,sR,sg,ohw,osw,mhw,msw,orv,ord,mrv,mrd,true_and,true_or,or_true,implies_true,svi,svb,svs,svp]
    have hX8:∀j,j<g7.nx→(fun _:Nat=>0) j=0→K9 (g7.nx+8) j=0:=fun j hj _=>K9_ne (by omega)
    refine callK_of (tookS hS.toNx dv (((hru.fr f7).col hX8).fr fA)) ?_
    rintro _ g8 ⟨⟨C,rfl,hSa⟩,f8⟩
    have n8:g7.nx+11≤g8.nx:=f8.nx
    have f78:=fA.trans f8
    have hSs:=hSa.sv
    refine ⟨fun j hj=>f78.get j (by rcases hj with rfl | rfl <;> omega),?_⟩
    try simp -dsimp (disch:=repeat first|rw [nxn]|rw [nxp]|omega) only [go_sem,true_and,true_or,or_true,implies_true,svi,svb,svs,svp]
    have hH8:=((hHu.fr f7).col hX8).fr f78
    have hM8:=((hMu.fr f7).col hX8).fr f78
    refine callK_of (stepC hS.toNw (invX 0) (fun j hj=>K9_ne (by omega)) (K9_or _) hH8 hM8 hSa hI hB (by omega) (by omega) ⟨Nat.zero_le _,fun r hr=>(by cases hr)⟩ (Nat.zero_le _)) ?_
    rintro _ g9 ⟨hw',sw',l',s',why,rfl,hH9,hM9,f9,hok,hno,h2⟩
    have hw2:why=2:=h2 rfl rfl hvn
    subst hw2
    obtain ⟨rfl,rfl⟩:=hno (by decide)
    have n9:=f9.nx
    have f79:=f78.trans f9
    refine ⟨fun j hj=>f9.get j (by rcases hj with rfl | rfl <;> omega),?_⟩
    have ohw':=hH9.ln.2.2
    have osw':=hM9.ln.2.2
    have mhw':=oneM ohw'
    have msw':=oneM osw'
    have sg2:=sag2 hH9 hM9
    have hX:K9 (g7.nx+8) (g7.nx+8)≠0:=by rw [K9_eq];decide
    have gk:Gk (K9 (g7.nx+8)) g9 ((g9.put (g7.nx+8) (.cells [.nilsl,.nilsl] true false)).put (g7.nx+8) (.cells [hw',sw'] true false)):=((Gk.refl _ _).put (.inl hX) _).put (.inl hX) _
    have qW9:=(f79.get W (by omega)).trans qW7
    simp -dsimp (disch:=repeat first|rw [nxn]|rw [nxp]|omega) only [go_sem,u2,u4,u7,qW9,ohw,osw,mhw,msw,ohw',osw',mhw',msw',sg2,true_and,true_or,or_true,implies_true,svi,svb,svs,svp]
    refine callK_of (sameMdC hS.toMp (hH9.gk gk) (hM9.gk gk) ((hH8.fr f9).gk gk) ((hM8.fr f9).gk gk)) ?_
    rintro _ g10 ⟨rfl,f10⟩
    have hd1:decide (l'=l')=true:=decide_eq_true rfl
    have hd2:decide (s'=s')=true:=decide_eq_true rfl
    simp -dsimp (disch:=repeat first|rw [nxn]|rw [nxp]|omega) only [go_sem,hd1,hd2]
   ·have hVp:(0:Int)<(V.length:Nat):=by
     cases V with
     | nil=>exact absurd rfl hV0
     | cons a b=>simp only [List.length_cons];omega
    simp -dsimp (disch:=repeat first|rw [nxn]|rw [nxp]|omega) only [go_sem,u2,u4,u7,u13,u14,eb,oV,mV,lV,hVp]
end
end Go.Proofs.YtihigekgnnoejaaGreatDoor.mdl
end