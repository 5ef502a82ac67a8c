/- The abstract layer, parts 66 to 71. Conditions: none. -/
import Derived.Test.YtaooopaemphfjaaGreatDoorAb7
set_option linter.unusedVariables false
set_option linter.unusedSimpArgs false

section
namespace Go.Abs
open Go
set_option linter.unusedVariables false
namespace Rec
def numE (n:Nat):List Nat:=if n<128 then [n] else [n/128+128,n%128]
def pieceE (s:List Nat):List Nat:=numE s.length++s
abbrev Pr:=List Nat×(List Nat×Bool)
def pairE (p:Pr):List Nat:=if p.2.2=true then 0::pieceE p.1 else 1::(pieceE p.1++pieceE p.2.1)
def recE (m:KL (List Nat×Bool)):List Nat:=1::(numE m.length++m.flatMap pairE)
def allE (m:KL (List Nat)):List Nat:=2::(numE m.length++m.flatMap fun p=>pieceE p.1++pieceE p.2)
def recP (l:KL (List Nat×Bool)):List Nat×Nat :=
 if l.any (fun p=>decide (p.1=[]))=true then ([],2)
 else if l.any (fun p=>decide (512<p.1.length)||(!p.2.2&&decide (65536<p.2.1.length)))=true then ([],3)
 else (recE (lastD l),0)
def allP (l:KL (List Nat)):List Nat×Nat :=
 if l.any (fun p=>decide (p.1=[]))=true then ([],2)
 else if l.any (fun p=>decide (512<p.1.length)||decide (65536<p.2.length))=true then ([],3)
 else (allE l,0)
/-! ### Reading -/
def rdF:Nat→Nat→List Nat→Nat×Nat×Nat
 | x,i,[]=>if 144115188075855872≤x then (0,0,4) else (0,0,5)
 | x,i,c::r=>if 144115188075855872≤x then (0,0,4) else if c<128 then (x*128+c%128,i+1,0) else rdF (x*128+c%128) (i+1) r
def rdN (l:List Nat):Nat×Nat×Nat:=if l[0]? = some 128 then (0,0,4) else rdF 0 0 l
theorem rdF_len:∀ {l:List Nat} {x i:Nat},(rdF x i l).2.2=0→i<(rdF x i l).2.1∧(rdF x i l).2.1≤i+l.length
 | [],x,i,h=>by unfold rdF at h;split at h <;> cases h
 | c::r,x,i,h=>by
  unfold rdF at h ⊢
  split at h
  ·cases h
  ·rename_i h1
   rw [if_neg h1]
   split at h
   ·rename_i h2
    rw [if_pos h2]
    exact ⟨Nat.lt_succ_self _,by simp⟩
   ·rename_i h2
    rw [if_neg h2]
    have:=rdF_len h
    exact ⟨by omega,by simp only [List.length_cons];omega⟩
theorem rdN_len {l:List Nat} (h:(rdN l).2.2=0):0<(rdN l).2.1∧(rdN l).2.1≤l.length:=by
 unfold rdN at h ⊢
 split at h
 ·cases h
 ·rename_i h1
  rw [if_neg h1]
  have:=rdF_len h
  omega
theorem rdN_num {n:Nat} (hn:n<16384) (r:List Nat):rdN (numE n++r)=(n,(numE n).length,0):=by
 unfold numE
 by_cases h:n<128
 ·rw [if_pos h]
  unfold rdN
  have h1:([n]++r)[0]? = some n:=rfl
  rw [h1,if_neg (by intro hh;cases hh;omega)]
  show rdF 0 0 (n::r)=_
  unfold rdF
  rw [if_neg (by decide),if_pos h]
  have:0*128+n%128=n:=by omega
  rw [this];rfl
 ·rw [if_neg h]
  unfold rdN
  have h1:([n/128+128,n%128]++r)[0]? = some (n/128+128):=rfl
  rw [h1,if_neg (by intro hh;have:=Option.some.inj hh;omega)]
  show rdF 0 0 ((n/128+128)::(n%128)::r)=_
  unfold rdF
  rw [if_neg (by decide),if_neg (by omega)]
  unfold rdF
  rw [if_neg (by omega),if_pos (by omega)]
  have:(0*128+(n/128+128)%128)*128+n%128%128=n:=by omega
  rw [this];rfl
structure Rd where
 b:List Nat
 e:Nat
def Rd.num (s:Rd):Nat×Rd:=if s.e≠0 then (0,s) else if (rdN s.b).2.2≠0 then (0,⟨s.b,(rdN s.b).2.2⟩) else ((rdN s.b).1,⟨s.b.drop (rdN s.b).2.1,0⟩)
def Rd.piece (s:Rd):List Nat×Rd :=
 if s.e≠0 then ([],s) else if (rdN s.b).2.2≠0 then ([],⟨s.b,(rdN s.b).2.2⟩)
 else if 1048576<(rdN s.b).1 then ([],⟨s.b,3⟩) else if s.b.length-(rdN s.b).2.1<(rdN s.b).1 then ([],⟨s.b,5⟩)
 else ((s.b.drop (rdN s.b).2.1).take (rdN s.b).1,⟨s.b.drop ((rdN s.b).2.1+(rdN s.b).1),0⟩)
def Rd.count (s:Rd) (most:Nat):Nat×Rd :=
 if s.e≠0 then (0,s) else if (rdN s.b).2.2≠0 then (0,⟨s.b,(rdN s.b).2.2⟩) else if most<(rdN s.b).1 then (0,⟨s.b,3⟩) else ((rdN s.b).1,⟨s.b.drop (rdN s.b).2.1,0⟩)
theorem Rd.piece_err {s:Rd} (h:s.e≠0):s.piece=([],s):=by unfold Rd.piece;rw [if_pos h]
theorem Rd.num_err {s:Rd} (h:s.e≠0):s.num=(0,s):=by unfold Rd.num;rw [if_pos h]
def one (kind:Nat) (s:Rd):Nat×Pr×Rd :=
 let a:=if kind=1 then s.num else (1,s)
 let k:=a.2.piece
 let v:=if kind=1∧a.1=0 then ([],k.2) else k.2.piece
 (a.1,(k.1,v.1,decide (kind=1∧a.1=0)),v.2)
def pairsF (kind:Nat):Nat→Rd→KL (List Nat×Bool)→KL (List Nat×Bool)×Rd
 | 0,s,acc=>(acc,s)
 | n+1,s,acc=>if s.e≠0 then (acc,s) else pairsF kind n (one kind s).2.2 (acc++[(one kind s).2.1])
def readP (s:List Nat):Option (KL (List Nat×Bool)×Bool) :=
 let k:=(Rd.mk s 0).num
 let c:=k.2.count s.length
 let p:=pairsF k.1 c.1 c.2 []
 if p.2.e≠0∨p.2.b≠[]∨(k.1≠1∧k.1≠2) then none else some (p.1,decide (k.1=2))
def doneP (L:KL (List Nat)) (l:KL (List Nat×Bool)):KL (List Nat):=l.foldl (fun L p=>if p.2.2=true then delP L p.1 else putP L p.1 p.2.1) L
def ofP (l:KL (List Nat×Bool)):KL (List Nat):=l.foldl (fun L p=>putP L p.1 p.2.1) []
def tellP (L:KL (List Nat)) (s:List Nat):KL (List Nat)×Nat:=match readP s with
 | none=>([],4)
 | some (l,true)=>if allP (ofP l)=(s,0) then (ofP l,0) else ([],4)
 | some (l,false)=>if recP l=(s,0) then (doneP L l,0) else ([],4)
/-! ### What was put is read -/
theorem num_back {n:Nat} (hn:n<16384) (r:List Nat):(Rd.mk (numE n++r) 0).num=(n,⟨r,0⟩):=by
 unfold Rd.num
 rw [if_neg (fun h=>h rfl)]
 dsimp only
 rw [rdN_num hn r,if_neg (fun h=>h rfl)]
 dsimp only
 rw [List.drop_left]
theorem piece_back {s:List Nat} (hn:s.length<16384) (r:List Nat):(Rd.mk (pieceE s++r) 0).piece=(s,⟨r,0⟩):=by
 unfold pieceE Rd.piece
 rw [if_neg (fun h=>h rfl)]
 dsimp only
 rw [List.append_assoc,rdN_num hn (s++r),if_neg (fun h=>h rfl)]
 dsimp only
 rw [if_neg (by omega),if_neg (by simp only [List.length_append];omega),List.drop_left,List.take_left,←List.drop_drop,List.drop_left,List.drop_left]
theorem count_back {n:Nat} (hn:n<16384) (r:List Nat) {most:Nat} (hm:n≤most):(Rd.mk (numE n++r) 0).count most=(n,⟨r,0⟩):=by
 unfold Rd.count
 rw [if_neg (fun h=>h rfl)]
 dsimp only
 rw [rdN_num hn r,if_neg (fun h=>h rfl)]
 dsimp only
 rw [if_neg (by omega),List.drop_left]
end Rec
end Go.Abs
end

section
namespace Go.Abs
open Go
set_option linter.unusedVariables false
section
variable {α : Type}
def wtf (f:List Nat→α→Nat):KL α→Nat
 | []=>0
 | e::r=>f e.1 e.2+wtf f r
theorem wtf_app (f:List Nat→α→Nat):∀(A B:KL α),wtf f (A++B)=wtf f A+wtf f B
 | [],B=>(Nat.zero_add _).symm
 | e::r,B=>by
  show f e.1 e.2+wtf f (r++B)=f e.1 e.2+wtf f r+wtf f B
  rw [wtf_app f r B];omega
theorem wtf_put (f:List Nat→α→Nat) (k:List Nat) (v:α):∀L:KL α,wtf f (putP L k v)≤wtf f L+f k v
 | []=>by show f k v+0≤0+f k v;omega
 | e::r=>by
  have ih:=wtf_put f k v r
  unfold putP
  split
  ·show f e.1 e.2+wtf f (putP r k v)≤f e.1 e.2+wtf f r+f k v
   omega
  ·split
   ·show f k v+wtf f r≤f e.1 e.2+wtf f r+f k v
    omega
   ·show f k v+(f e.1 e.2+wtf f r)≤f e.1 e.2+wtf f r+f k v
    omega
theorem wtf_last (f:List Nat→α→Nat) (l:KL α):wtf f (lastD l)≤wtf f l:=by
 have key:∀(l L:KL α),wtf f (l.foldl (fun out p=>putP out p.1 p.2) L)≤wtf f L+wtf f l:=by
  intro l
  induction l with
  | nil=>intro L;exact Nat.le_refl _
  | cons p l ih =>
   intro L
   have h1:=ih (putP L p.1 p.2)
   have h2:=wtf_put f p.1 p.2 L
   show wtf f (l.foldl (fun out p=>putP out p.1 p.2) (putP L p.1 p.2))≤wtf f L+(f p.1 p.2+wtf f l)
   omega
 have:=key l []
 simpa [lastD,wtf] using this
theorem wtf_map {β:Type} (f:List Nat→β→Nat) (g:α→β):∀l:KL α,wtf f (l.map fun p=>(p.1,g p.2))=wtf (fun k v=>f k (g v)) l
 | []=>rfl
 | e::r=>by
  show f e.1 (g e.2)+wtf f (r.map fun p=>(p.1,g p.2))=_
  rw [wtf_map f g r];rfl
end
namespace Rec
abbrev lenP (k:List Nat) (v:List Nat×Bool):Nat:=k.length+v.1.length
abbrev lenK (k:List Nat) (v:List Nat):Nat:=k.length+v.length
theorem ofP_last (l:KL (List Nat×Bool)):ofP l=lastD (l.map fun p=>(p.1,p.2.1)):=by
 unfold ofP lastD
 rw [List.foldl_map]
theorem ofP_mem {l:KL (List Nat×Bool)} {p:List Nat×List Nat} (h:p∈ofP l):∃q∈l,p=(q.1,q.2.1):=by
 rw [ofP_last] at h
 obtain ⟨q,hq,e⟩:=List.mem_map.1 (last_mem h)
 exact ⟨q,hq,e.symm⟩
theorem ofP_wt (l:KL (List Nat×Bool)):wtf lenK (ofP l)≤wtf lenP l:=by
 rw [ofP_last]
 refine Nat.le_trans (wtf_last _ _) ?_
 rw [wtf_map]
 exact Nat.le_refl _
theorem numE_len (n:Nat):(numE n).length≤2:=by
 unfold numE
 split <;> simp
theorem pieceE_len (s:List Nat):(pieceE s).length≤s.length+2:=by
 unfold pieceE
 rw [List.length_append]
 have:=numE_len s.length
 omega
theorem recE_len (m:KL (List Nat×Bool)):(recE m).length≤3+wtf lenP m+5*m.length:=by
 have key:∀m:KL (List Nat×Bool),(m.flatMap pairE).length≤wtf lenP m+5*m.length:=by
  intro m
  induction m with
  | nil=>exact Nat.le_refl _
  | cons p m ih =>
   rw [List.flatMap_cons,List.length_append,List.length_cons]
   have h1:(pairE p).length≤lenP p.1 p.2+5:=by
    show _≤p.1.length+p.2.1.length+5
    unfold pairE
    have a:=pieceE_len p.1
    have b:=pieceE_len p.2.1
    split
    ·simp only [List.length_cons];omega
    ·simp only [List.length_cons,List.length_append];omega
   show _≤lenP p.1 p.2+wtf lenP m+_
   omega
 unfold recE
 rw [List.length_cons,List.length_append]
 have a:=numE_len m.length
 have b:=key m
 omega
theorem allE_len (m:KL (List Nat)):(allE m).length≤3+wtf lenK m+4*m.length:=by
 have key:∀m:KL (List Nat),(m.flatMap fun p=>pieceE p.1++pieceE p.2).length≤wtf lenK m+4*m.length:=by
  intro m
  induction m with
  | nil=>exact Nat.le_refl _
  | cons p m ih =>
   rw [List.flatMap_cons,List.length_append,List.length_cons,List.length_append]
   have a:=pieceE_len p.1
   have b:=pieceE_len p.2
   show _≤p.1.length+p.2.length+wtf lenK m+_
   omega
 unfold allE
 rw [List.length_cons,List.length_append]
 have a:=numE_len m.length
 have b:=key m
 omega
/-! ### Bytes -/
def byL (l:List Nat):Prop:=∀b∈l,b<256
theorem byL_app {a b:List Nat} (ha:byL a) (hb:byL b):byL (a++b):=fun x hx=>(List.mem_append.1 hx).elim (ha x) (hb x)
theorem byL_cons {a:Nat} {b:List Nat} (ha:a<256) (hb:byL b):byL (a::b):=fun x hx=>(List.mem_cons.1 hx).elim (fun h=>h▸ha) (hb x)
theorem byL_nil:byL []:=fun x hx=>by cases hx
theorem byL_flat {α:Type} {f:α→List Nat}:∀ {m:List α},(∀p∈m,byL (f p))→byL (m.flatMap f)
 | [],_=>byL_nil
 | p::m,h=>byL_app (h p (by simp)) (byL_flat fun q hq=>h q (by simp [hq]))
theorem numE_by {n:Nat} (hn:n<16384):byL (numE n):=by
 unfold numE
 split
 ·exact byL_cons (by omega) byL_nil
 ·exact byL_cons (by omega) (byL_cons (by omega) byL_nil)
theorem pieceE_by {s:List Nat} (hn:s.length<16384) (hb:byL s):byL (pieceE s):=byL_app (numE_by hn) hb
theorem recE_by {m:KL (List Nat×Bool)} (hn:m.length<16384) (h:∀p∈m,(p.1.length<16384∧p.2.1.length<16384)∧byL p.1∧byL p.2.1):byL (recE m):=by
 unfold recE
 refine byL_cons (by decide) (byL_app (numE_by hn) (byL_flat fun p hp=>?_))
 obtain ⟨⟨h1,h2⟩,h3,h4⟩:=h p hp
 unfold pairE
 split
 ·exact byL_cons (by decide) (pieceE_by h1 h3)
 ·exact byL_cons (by decide) (byL_app (pieceE_by h1 h3) (pieceE_by h2 h4))
theorem allE_by {m:KL (List Nat)} (hn:m.length<16384) (h:∀p∈m,(p.1.length<16384∧p.2.length<16384)∧byL p.1∧byL p.2):byL (allE m):=by
 unfold allE
 refine byL_cons (by decide) (byL_app (numE_by hn) (byL_flat fun p hp=>?_))
 obtain ⟨⟨h1,h2⟩,h3,h4⟩:=h p hp
 exact byL_app (pieceE_by h1 h3) (pieceE_by h2 h4)
theorem wtf_mem {p:Pr}:∀ {l:KL (List Nat×Bool)},p∈l→p.1.length+p.2.1.length≤wtf lenP l
 | e::r,h=>by
  rcases List.mem_cons.1 h with rfl | h
  ·show _≤p.1.length+p.2.1.length+_
   omega
  ·have:=wtf_mem h
   show _≤e.1.length+e.2.1.length+_
   omega
theorem fit_of {l:KL (List Nat×Bool)} (h1:l.length≤4096) (h2:wtf lenP l≤16000) (h3:∀p∈l,byL p.1∧byL p.2.1) :
  (∀p∈l,p.1.length<16384∧p.2.1.length<16384)∧(∀p∈ofP l,p.1.length<16384∧p.2.length<16384)∧(recE (lastD l)).length≤1048576∧byL (recE (lastD l))∧(allE (ofP l)).length≤1048576∧byL (allE (ofP l)):=by
 have hp:∀p∈l,p.1.length<16384∧p.2.1.length<16384:=fun p hp=>by
  have:=wtf_mem hp
  omega
 have ho:∀p∈ofP l,(p.1.length<16384∧p.2.length<16384)∧byL p.1∧byL p.2:=fun p hp'=>by
  obtain ⟨q,hq,rfl⟩:=ofP_mem hp'
  exact ⟨hp q hq,h3 q hq⟩
 have hl:=last_len l
 have hol:(ofP l).length≤l.length:=by
  rw [ofP_last]
  have:=last_len (l.map fun p:List Nat×List Nat×Bool=>(p.1,p.2.1))
  simpa using this
 have w1:=wtf_last lenP l
 have w2:=ofP_wt l
 have r1:=recE_len (lastD l)
 have r2:=allE_len (ofP l)
 exact ⟨hp,fun p hp=>(ho p hp).1,by omega,recE_by (by omega) fun p hp'=>⟨hp p (last_mem hp'),h3 p (last_mem hp')⟩,by omega,allE_by (by omega) ho⟩
end Rec
end Go.Abs
end

section
namespace Go.Abs
open Go
set_option linter.unusedVariables false
section
variable {α : Type}
def getP:KL α→List Nat→Option α
 | [],_=>none
 | e::r,k=>if e.1=k then some e.2 else getP r k
theorem getP_cons (e:List Nat×α) (r:KL α) (k:List Nat):getP (e::r) k=if e.1=k then some e.2 else getP r k:=rfl
theorem getP_none {k:List Nat}:∀ {L:KL α},(∀x∈L,x.1≠k)→getP L k=none
 | [],_=>rfl
 | e::r,h=>by
  rw [getP_cons,if_neg (h e (by simp))]
  exact getP_none fun x hx=>h x (by simp [hx])
theorem riseP_ne {e:List Nat×α} {r:KL α} (h:riseP (e::r)):getP r e.1=none:=getP_none fun x hx hh=>by
 have:=h.1 x hx
 rw [hh,lessA_irr] at this
 cases this
theorem riseP_lt {e:List Nat×α} {r:KL α} (h:riseP (e::r)) {k:List Nat} (hk:lessA k e.1=true):getP (e::r) k=none:=getP_none fun x hx hh=>by
 rcases List.mem_cons.1 hx with rfl | hx
 ·rw [hh,lessA_irr] at hk;cases hk
 ·have:=lessA_tr _ _ _ hk (h.1 x hx)
  rw [hh,lessA_irr] at this
  cases this
theorem getP_ext:∀ {A B:KL α},riseP A→riseP B→(∀k,getP A k=getP B k)→A=B
 | [],[],_,_,_=>rfl
 | [],b::s,_,_,h=>by
  have:=h b.1
  rw [getP_cons,if_pos rfl] at this
  cases this
 | a::r,[],_,_,h=>by
  have:=h a.1
  rw [getP_cons,if_pos rfl] at this
  cases this
 | a::r,b::s,ha,hb,h=>by
  by_cases hab:a.1=b.1
  ·have h1:=h a.1
   rw [getP_cons,getP_cons,if_pos rfl,if_pos hab.symm] at h1
   have e:a=b:=Prod.ext hab (Option.some.inj h1)
   subst e
   congr 1
   refine getP_ext ha.2 hb.2 fun k=>?_
   by_cases hk:a.1=k
   ·subst hk
    rw [riseP_ne ha,riseP_ne hb]
   ·have h2:=h k
    rw [getP_cons,getP_cons,if_neg hk,if_neg hk] at h2
    exact h2
  ·exfalso
   by_cases hl:lessA a.1 b.1=true
   ·have h1:=h a.1
    rw [riseP_lt hb hl,getP_cons,if_pos rfl] at h1
    cases h1
   ·have hl':=lessA_tot _ _ hab (by simpa using hl)
    have h1:=h b.1
    rw [riseP_lt ha hl',getP_cons,if_pos rfl] at h1
    cases h1
theorem getP_put (k:List Nat) (v:α) (j:List Nat):∀L:KL α,getP (putP L k v) j=if k=j then some v else getP L j
 | []=>rfl
 | e::r=>by
  rw [putP_cons]
  by_cases h1:lessA e.1 k=true
  ·rw [if_pos h1,getP_cons,getP_put k v j r,getP_cons]
   by_cases h2:e.1=j
   ·rw [if_pos h2,if_pos h2,if_neg]
    intro hh
    rw [hh,←h2,lessA_irr] at h1
    cases h1
   ·rw [if_neg h2,if_neg h2]
  ·rw [if_neg h1]
   by_cases h2:e.1=k
   ·rw [if_pos h2,getP_cons,getP_cons]
    by_cases h3:k=j
    ·rw [if_pos h3,if_pos h3]
    ·rw [if_neg h3,if_neg h3,if_neg (fun hh=>h3 (h2.symm.trans hh))]
   ·rw [if_neg h2,getP_cons]
theorem getP_del (k j:List Nat):∀ {L:KL α},riseP L→getP (delP L k) j=if k=j then none else getP L j
 | [],_=>by
  show (none:Option α)=_
  split <;> rfl
 | e::r,h=>by
  unfold delP
  by_cases h1:lessA e.1 k=true
  ·rw [if_pos h1,getP_cons,getP_del k j h.2,getP_cons]
   by_cases h2:e.1=j
   ·rw [if_pos h2,if_pos h2,if_neg]
    intro hh
    rw [hh,←h2,lessA_irr] at h1
    cases h1
   ·rw [if_neg h2,if_neg h2]
  ·rw [if_neg h1]
   by_cases h2:e.1=k
   ·rw [if_pos h2,getP_cons]
    by_cases h3:k=j
    ·rw [if_pos h3,←h3,←h2];exact riseP_ne h
    ·rw [if_neg h3,if_neg (fun hh=>h3 (h2.symm.trans hh))]
   ·rw [if_neg h2]
    by_cases h3:k=j
    ·rw [if_pos h3,←h3]
     exact riseP_lt h (lessA_tot _ _ h2 (by simpa using h1))
    ·rw [if_neg h3]
def lstP (k:List Nat):Option α→KL α→Option α
 | o,[]=>o
 | o,e::r=>lstP k (if e.1=k then some e.2 else o) r
theorem lstP_rise {k:List Nat}:∀ {R:KL α} {o:Option α},riseP R→lstP k o R=match getP R k with | some v=>some v | none=>o
 | [],o,_=>rfl
 | e::r,o,h=>by
  show lstP k (if e.1=k then some e.2 else o) r=_
  rw [lstP_rise h.2,getP_cons]
  by_cases h1:e.1=k
  ·rw [if_pos h1,if_pos h1,←h1,riseP_ne h]
  ·rw [if_neg h1,if_neg h1]
theorem getP_fold (k:List Nat):∀(l L:KL α),getP (l.foldl (fun out p=>putP out p.1 p.2) L) k=lstP k (getP L k) l
 | [],L=>rfl
 | p::l,L=>by
  rw [List.foldl_cons,getP_fold k l,getP_put];rfl
theorem getP_last (k:List Nat) (l:KL α):getP (lastD l) k=lstP k none l:=getP_fold k l []
theorem last_id {R:KL α} (h:riseP R):lastD R=R:=getP_ext (riseP_last R) h fun k=>by
 rw [getP_last,lstP_rise h]
 cases getP R k <;> rfl
end
namespace Rec
def stpD (k:List Nat) (o:Option (List Nat)) (p:Pr):Option (List Nat):=if p.1=k then (if p.2.2=true then none else some p.2.1) else o
theorem getP_done (k:List Nat):∀(l:KL (List Nat×Bool)) {L:KL (List Nat)},riseP L→getP (doneP L l) k=l.foldl (stpD k) (getP L k)
 | [],L,_=>rfl
 | p::l,L,h=>by
  have e:doneP L (p::l)=doneP (if p.2.2=true then delP L p.1 else putP L p.1 p.2.1) l:=rfl
  rw [e,List.foldl_cons]
  by_cases hg:p.2.2=true
  ·rw [if_pos hg,getP_done k l (riseP_del h p.1),getP_del p.1 k h]
   unfold stpD
   rw [if_pos hg]
  ·rw [if_neg hg,getP_done k l (riseP_put h p.1 p.2.1),getP_put]
   unfold stpD
   rw [if_neg hg]
theorem fold_lst (k:List Nat):∀(l:KL (List Nat×Bool)) (o:Option (List Nat)) (v:Option (List Nat×Bool)),l.foldl (stpD k) (match v with | none=>o | some v=>if v.2=true then none else some v.1)=match lstP k v l with | none=>o | some v=>if v.2=true then none else some v.1
 | [],o,v=>rfl
 | p::l,o,v=>by
  rw [List.foldl_cons]
  show _=match lstP k (if p.1=k then some p.2 else v) l with | none=>o | some v=>if v.2=true then none else some v.1
  rw [←fold_lst k l o (if p.1=k then some p.2 else v)]
  congr 1
  unfold stpD
  by_cases h:p.1=k
  ·rw [if_pos h,if_pos h]
  ·rw [if_neg h,if_neg h]
theorem riseP_done:∀(m:KL (List Nat×Bool)) {L:KL (List Nat)},riseP L→riseP (doneP L m)
 | [],L,h=>h
 | p::m,L,h=>by
  have e:doneP L (p::m)=doneP (if p.2.2=true then delP L p.1 else putP L p.1 p.2.1) m:=rfl
  rw [e]
  split
  ·exact riseP_done m (riseP_del h _)
  ·exact riseP_done m (riseP_put h _ _)
theorem done_last {L:KL (List Nat)} (h:riseP L) (l:KL (List Nat×Bool)):doneP L (lastD l)=doneP L l:=getP_ext (riseP_done _ h) (riseP_done _ h) fun k=>by
 rw [getP_done k _ h,getP_done k _ h]
 have a:=fold_lst k (lastD l) (getP L k) none
 have b:=fold_lst k l (getP L k) none
 dsimp only at a b
 rw [a,b,lstP_rise (riseP_last l),getP_last]
 cases lstP k none l <;> rfl
theorem ofP_rise {M:KL (List Nat)} (h:riseP M):ofP (M.map fun e=>(e.1,(e.2,false)))=M:=by
 rw [ofP_last,List.map_map]
 have:M.map ((fun p:List Nat×List Nat×Bool=>(p.1,p.2.1)) ∘ fun e=>(e.1,(e.2,false)))=M:=by
  rw [show ((fun p:List Nat×List Nat×Bool=>(p.1,p.2.1)) ∘ fun e:List Nat×List Nat=>(e.1,(e.2,false)))=id from rfl,List.map_id]
 rw [this]
 exact last_id h
/-! ### Own records read again -/
def nrm (p:Pr):Pr:=if p.2.2=true then (p.1,([],true)) else p
theorem one_rec {p:Pr} (h1:p.1.length<16384) (h2:p.2.1.length<16384) (r:List Nat):(one 1 ⟨pairE p++r,0⟩).2=(nrm p,⟨r,0⟩):=by
 unfold pairE nrm
 cases hg:p.2.2
 ·have e0:(1::(pieceE p.1++pieceE p.2.1))++r=numE 1++(pieceE p.1++(pieceE p.2.1++r)):=by simp [numE]
  rw [if_neg (by decide),e0]
  unfold one
  simp only [if_true,num_back (show (1:Nat)<16384 by decide),piece_back h1,piece_back h2]
  obtain ⟨a,b,c⟩:=p
  simp at hg
  subst hg
  simp
 ·have e0:(0::pieceE p.1)++r=numE 0++(pieceE p.1++r):=by simp [numE]
  rw [if_pos rfl,e0]
  unfold one
  simp only [if_true,num_back (show (0:Nat)<16384 by decide),piece_back h1]
  simp
theorem one_all {p:List Nat×List Nat} (h1:p.1.length<16384) (h2:p.2.length<16384) (r:List Nat):(one 2 ⟨(pieceE p.1++pieceE p.2)++r,0⟩).2=((p.1,(p.2,false)),⟨r,0⟩):=by
 rw [List.append_assoc]
 unfold one
 simp [piece_back h1,piece_back h2]
theorem pairsF_rec:∀(m acc:KL (List Nat×Bool)),(∀p∈m,p.1.length<16384∧p.2.1.length<16384)→pairsF 1 m.length ⟨m.flatMap pairE,0⟩ acc=(acc++m.map nrm,⟨[],0⟩)
 | [],acc,_=>by simp [pairsF]
 | p::m,acc,h=>by
  have hp:=h p (by simp)
  have e:(p::m).flatMap pairE=pairE p++m.flatMap pairE:=rfl
  rw [e]
  show pairsF 1 (m.length+1) _ acc=_
  unfold pairsF
  rw [if_neg (fun hh=>hh rfl),one_rec hp.1 hp.2]
  dsimp only
  rw [pairsF_rec m _ fun q hq=>h q (by simp [hq])]
  simp
theorem pairsF_all:∀(m:KL (List Nat)) (acc:KL (List Nat×Bool)),(∀p∈m,p.1.length<16384∧p.2.length<16384)→pairsF 2 m.length ⟨m.flatMap fun p=>pieceE p.1++pieceE p.2,0⟩ acc=(acc++m.map (fun e=>(e.1,(e.2,false))),⟨[],0⟩)
 | [],acc,_=>by simp [pairsF]
 | p::m,acc,h=>by
  have hp:=h p (by simp)
  have e:((p::m).flatMap fun p=>pieceE p.1++pieceE p.2)=(pieceE p.1++pieceE p.2)++m.flatMap fun p=>pieceE p.1++pieceE p.2:=rfl
  rw [e]
  show pairsF 2 (m.length+1) _ acc=_
  unfold pairsF
  rw [if_neg (fun hh=>hh rfl),one_all hp.1 hp.2]
  dsimp only
  rw [pairsF_all m _ fun q hq=>h q (by simp [hq])]
  simp
theorem flat_ge {α:Type} {f:α→List Nat} (hf:∀p,0<(f p).length):∀m:List α,m.length≤(m.flatMap f).length
 | []=>Nat.le_refl _
 | p::m=>by
  rw [List.flatMap_cons,List.length_append,List.length_cons]
  have:=flat_ge hf m
  have:=hf p
  omega
theorem pairE_pos (p:Pr):0<(pairE p).length:=by
 unfold pairE
 split <;> simp
theorem numE_pos (n:Nat):0<(numE n).length:=by
 unfold numE
 split <;> simp
theorem read_rec {m:KL (List Nat×Bool)} (hn:m.length<16384) (h:∀p∈m,p.1.length<16384∧p.2.1.length<16384):readP (recE m)=some (m.map nrm,false):=by
 have e0:recE m=numE 1++(numE m.length++m.flatMap pairE):=by simp [recE,numE]
 have hl:m.length≤(recE m).length:=by
  have:=flat_ge pairE_pos m
  rw [e0]
  simp only [List.length_append];omega
 unfold readP
 have h1:(Rd.mk (recE m) 0).num=(1,⟨numE m.length++m.flatMap pairE,0⟩):=by rw [e0];exact num_back (by decide) _
 dsimp only
 rw [h1]
 dsimp only
 rw [count_back hn _ hl]
 dsimp only
 rw [pairsF_rec m [] h]
 simp
theorem read_all {m:KL (List Nat)} (hn:m.length<16384) (h:∀p∈m,p.1.length<16384∧p.2.length<16384):readP (allE m)=some (m.map (fun e=>(e.1,(e.2,false))),true):=by
 have e0:allE m=numE 2++(numE m.length++m.flatMap fun p=>pieceE p.1++pieceE p.2):=by simp [allE,numE]
 have hl:m.length≤(allE m).length:=by
  have:=flat_ge (f:=fun p:List Nat×List Nat=>pieceE p.1++pieceE p.2) (fun p=>by
   have:=numE_pos p.1.length
   simp only [pieceE,List.length_append];omega) m
  rw [e0]
  simp only [List.length_append] at this ⊢
  omega
 unfold readP
 have h1:(Rd.mk (allE m) 0).num=(2,⟨numE m.length++m.flatMap fun p=>pieceE p.1++pieceE p.2,0⟩):=by rw [e0];exact num_back (by decide) _
 dsimp only
 rw [h1]
 dsimp only
 rw [count_back hn _ hl]
 dsimp only
 rw [pairsF_all m [] h]
 simp
def okP (p:Pr):Prop:=p.1≠[]∧p.1.length≤512∧(p.2.2=true∨p.2.1.length≤65536)
theorem rec_ok {l:KL (List Nat×Bool)} (h:∀p∈l,okP p):recP l=(recE (lastD l),0):=by
 have a:¬l.any (fun p=>decide (p.1=[]))=true:=fun hh=>by
  obtain ⟨p,hp,h2⟩:=List.any_eq_true.1 hh
  exact (h p hp).1 (of_decide_eq_true h2)
 have b:¬l.any (fun p=>decide (512<p.1.length)||(!p.2.2&&decide (65536<p.2.1.length)))=true:=fun hh=>by
  obtain ⟨p,hp,h2⟩:=List.any_eq_true.1 hh
  obtain ⟨_,h3,h4⟩:=h p hp
  simp only [Bool.or_eq_true,decide_eq_true_eq,Bool.and_eq_true,Bool.not_eq_true'] at h2
  rcases h2 with h2 | ⟨h2,h5⟩
  ·omega
  ·rcases h4 with h4 | h4
   ·rw [h2] at h4;cases h4
   ·omega
 unfold recP
 rw [if_neg a,if_neg b]
theorem rec_no {l:KL (List Nat×Bool)} (h:(recP l).2=0):∀p∈l,okP p:=fun p hp=>by
 unfold recP at h
 split at h
 ·cases h
 ·rename_i a
  split at h
  ·cases h
  ·rename_i b
   refine ⟨fun hh=>a (List.any_eq_true.2 ⟨p,hp,decide_eq_true hh⟩),?_,?_⟩
   ·refine Nat.le_of_not_lt fun hh=>b (List.any_eq_true.2 ⟨p,hp,?_⟩)
    simp [hh]
   ·cases hg:p.2.2
    ·refine .inr (Nat.le_of_not_lt fun hh=>b (List.any_eq_true.2 ⟨p,hp,?_⟩))
     simp [hg,hh]
    ·exact .inl rfl
theorem all_ok {M:KL (List Nat)} (h:∀p∈M,p.1≠[]∧p.1.length≤512∧p.2.length≤65536):allP M=(allE M,0):=by
 have a:¬M.any (fun p=>decide (p.1=[]))=true:=fun hh=>by
  obtain ⟨p,hp,h2⟩:=List.any_eq_true.1 hh
  exact (h p hp).1 (of_decide_eq_true h2)
 have b:¬M.any (fun p=>decide (512<p.1.length)||decide (65536<p.2.length))=true:=fun hh=>by
  obtain ⟨p,hp,h2⟩:=List.any_eq_true.1 hh
  obtain ⟨_,h3,h4⟩:=h p hp
  simp only [Bool.or_eq_true,decide_eq_true_eq] at h2
  omega
 unfold allP
 rw [if_neg a,if_neg b]
theorem nrm_key (p:Pr):(nrm p).1=p.1:=by unfold nrm;split <;> rfl
theorem nrm_pairE (p:Pr):pairE (nrm p)=pairE p:=by
 unfold nrm
 by_cases h:p.2.2=true
 ·rw [if_pos h]
  unfold pairE
  rw [if_pos rfl,if_pos h]
 ·rw [if_neg h]
theorem riseP_nrm:∀ {m:KL (List Nat×Bool)},riseP m→riseP (m.map nrm)
 | [],_=>trivial
 | p::m,h=>⟨fun x hx=>by
   obtain ⟨q,hq,rfl⟩:=List.mem_map.1 hx
   rw [nrm_key,nrm_key]
   exact h.1 q hq,riseP_nrm h.2⟩
theorem recE_nrm (m:KL (List Nat×Bool)):recE (m.map nrm)=recE m:=by
 unfold recE
 rw [List.length_map,List.flatMap_map]
 have:(fun a=>pairE (nrm a))=pairE:=funext nrm_pairE
 rw [this]
theorem tell_all {M:KL (List Nat)} (hr:riseP M) (hn:M.length<16384) (h:∀p∈M,p.1.length<16384∧p.2.length<16384) (hok:∀p∈M,p.1≠[]∧p.1.length≤512∧p.2.length≤65536) (L:KL (List Nat)):tellP L (allE M)=(M,0):=by
 unfold tellP
 rw [read_all hn h]
 dsimp only
 rw [ofP_rise hr,all_ok hok,if_pos rfl]
end Rec
/-! ### Trees of texts: heaps -/
theorem aboveA_iff (a b:List Nat):aboveA a b=true↔(rankA b).toNat<(rankA a).toNat∨((rankA a).toNat=(rankA b).toNat∧lessA a b=true):=by
 unfold aboveA
 simp
theorem aboveA_tr {a b c:List Nat} (h1:aboveA a b=true) (h2:aboveA b c=true):aboveA a c=true:=by
 rw [aboveA_iff] at h1 h2 ⊢
 rcases h1 with h1 | ⟨h1,h1'⟩ <;> rcases h2 with h2 | ⟨h2,h2'⟩
 ·exact .inl (by omega)
 ·exact .inl (by omega)
 ·exact .inl (by omega)
 ·exact .inr ⟨by omega,lessA_tr _ _ _ h1' h2'⟩
theorem aboveA_asym {a b:List Nat} (h1:aboveA a b=true):¬aboveA b a=true:=fun h2=>by
 rw [aboveA_iff] at h1 h2
 rcases h1 with h1 | ⟨h1,h1'⟩ <;> rcases h2 with h2 | ⟨h2,h2'⟩
 ·omega
 ·omega
 ·omega
 ·rw [lessA_asym h1'] at h2';cases h2'
theorem aboveA_tot {a b:List Nat} (hne:a≠b) (h:¬aboveA a b=true):aboveA b a=true:=by
 rw [aboveA_iff] at h ⊢
 by_cases h1:(rankA a).toNat<(rankA b).toNat
 ·exact .inl h1
 ·by_cases h2:(rankA b).toNat<(rankA a).toNat
  ·exact absurd (.inl h2) h
  ·refine .inr ⟨by omega,?_⟩
   refine lessA_tot _ _ hne ?_
   cases hl:lessA a b
   ·rfl
   ·exact absurd (.inr ⟨by omega,hl⟩) h
def Hp:Tp→Prop
 | .nil=>True
 | .nd k v l r=>(∀e∈ino l,aboveA k e.1=true)∧(∀e∈ino r,aboveA k e.1=true)∧Hp l∧Hp r
theorem cut_sub (key:List Nat):∀t:Tp,(∀e∈ino (cutT key t).1,e∈ino t)∧∀e∈ino (cutT key t).2,e∈ino t
 | .nil=>⟨fun e h=>h,fun e h=>h⟩
 | .nd k v l r=>by
  have e:ino (.nd k v l r)=ino l++(k,v)::ino r:=rfl
  rw [e]
  obtain ⟨l1,l2⟩:=cut_sub key l
  obtain ⟨r1,r2⟩:=cut_sub key r
  unfold cutT
  split
  ·refine ⟨fun x hx=>?_,fun x hx=>by simp [r2 x hx]⟩
   have hx':x∈ino l++(k,v)::ino (cutT key r).1:=hx
   rcases List.mem_append.1 hx' with h | h
   ·simp [h]
   ·rcases List.mem_cons.1 h with h | h
    ·simp [h]
    ·simp [r1 x h]
  ·refine ⟨fun x hx=>by simp [l1 x hx],fun x hx=>?_⟩
   have hx':x∈ino (cutT key l).2++(k,v)::ino r:=hx
   rcases List.mem_append.1 hx' with h | h
   ·simp [l2 x h]
   ·rcases List.mem_cons.1 h with h | h
    ·simp [h]
    ·simp [h]
theorem hp_cut (key:List Nat):∀ {t:Tp},Hp t→Hp (cutT key t).1∧Hp (cutT key t).2
 | .nil,_=>⟨trivial,trivial⟩
 | .nd k v l r,⟨h1,h2,h3,h4⟩=>by
  obtain ⟨l1,l2⟩:=hp_cut key h3
  obtain ⟨r1,r2⟩:=hp_cut key h4
  obtain ⟨sl1,sl2⟩:=cut_sub key l
  obtain ⟨sr1,sr2⟩:=cut_sub key r
  unfold cutT
  split
  ·exact ⟨⟨h1,fun e he=>h2 e (sr1 e he),h3,r1⟩,r2⟩
  ·exact ⟨l1,fun e he=>h1 e (sl2 e he),h2,l2,h4⟩
theorem hp_joinF:∀(n:Nat) (a b:Tp),a.size+b.size<n→riseP (ino a++ino b)→Hp a→Hp b→Hp (joinF n a b)
 | 0,a,b,h,_,_,_=>by omega
 | n+1,.nil,b,_,_,_,hb=>hb
 | n+1,.nd k v l r,.nil,_,_,ha,_=>ha
 | n+1,.nd k v l r,.nd k2 v2 l2 r2,h,hr,⟨a1,a2,a3,a4⟩,⟨b1,b2,b3,b4⟩=>by
  have e1:(Tp.nd k v l r).size=l.size+r.size+1:=rfl
  have e2:(Tp.nd k2 v2 l2 r2).size=l2.size+r2.size+1:=rfl
  have i1:ino (.nd k v l r)=ino l++(k,v)::ino r:=rfl
  have i2:ino (.nd k2 v2 l2 r2)=ino l2++(k2,v2)::ino r2:=rfl
  obtain ⟨hra,hrb,hab⟩:=riseP_app.1 hr
  have hlt:lessA k k2=true:=hab (k,v) (by rw [i1];simp) (k2,v2) (by rw [i2];simp)
  unfold joinF
  by_cases hk:aboveA k k2=true
  ·rw [if_pos hk]
   have hr':riseP (ino r++ino (.nd k2 v2 l2 r2)):=by
    rw [i1] at hra
    refine riseP_app.2 ⟨(riseP_app.1 hra).2.1.2,hrb,fun x hx y hy=>hab x (by rw [i1];simp [hx]) y hy⟩
   refine ⟨a1,fun e he=>?_,a3,hp_joinF n r _ (by omega) hr' a4 ⟨b1,b2,b3,b4⟩⟩
   rw [ino_joinF n r _ (by omega)] at he
   rcases List.mem_append.1 he with he | he
   ·exact a2 e he
   ·rw [i2] at he
    rcases List.mem_append.1 he with he | he
    ·exact aboveA_tr hk (b1 e he)
    ·rcases List.mem_cons.1 he with rfl | he
     ·exact hk
     ·exact aboveA_tr hk (b2 e he)
  ·rw [if_neg hk]
   have hk2:=aboveA_tot (lessA_ne hlt) hk
   have hr':riseP (ino (.nd k v l r)++ino l2):=by
    rw [i2] at hrb
    refine riseP_app.2 ⟨hra,(riseP_app.1 hrb).1,fun x hx y hy=>hab x hx y (by rw [i2];simp [hy])⟩
   refine ⟨fun e he=>?_,b2,hp_joinF n _ l2 (by omega) hr' ⟨a1,a2,a3,a4⟩ b3,b4⟩
   rw [ino_joinF n _ l2 (by omega)] at he
   rcases List.mem_append.1 he with he | he
   ·rw [i1] at he
    rcases List.mem_append.1 he with he | he
    ·exact aboveA_tr hk2 (a1 e he)
    ·rcases List.mem_cons.1 he with rfl | he
     ·exact hk2
     ·exact aboveA_tr hk2 (a2 e he)
   ·exact b1 e he
theorem hp_join {a b:Tp} (hr:riseP (ino a++ino b)) (ha:Hp a) (hb:Hp b):Hp (joinT a b):=hp_joinF _ a b (Nat.lt_succ_self _) hr ha hb
theorem hp_put {t:Tp} (hr:riseP (ino t)) (h:Hp t) (k v:List Nat):Hp (putT2 t k v):=by
 obtain ⟨c1,c2⟩:=hp_cut k h
 obtain ⟨d1,d2⟩:=hp_cut (k++[0]) c2
 have e:=ino_put hr k v
 unfold putT2 at e ⊢
 have hrp:=riseP_put hr k v
 rw [←e,ino_join] at hrp
 have h1:=(riseP_app.1 hrp).1
 rw [ino_join] at h1
 refine hp_join hrp (hp_join h1 c1 ⟨(fun e he=>by cases he),(fun e he=>by cases he),trivial,trivial⟩) d2
theorem hp_drop {t:Tp} (hr:riseP (ino t)) (h:Hp t) (k:List Nat):Hp (dropT2 t k):=by
 obtain ⟨c1,c2⟩:=hp_cut k h
 obtain ⟨d1,d2⟩:=hp_cut (k++[0]) c2
 have e:=ino_drop hr k
 unfold dropT2 at e ⊢
 split
 ·rename_i hc
  rw [if_pos hc,ino_join] at e
  have hrd:=riseP_del hr k
  rw [←e] at hrd
  exact hp_join hrd c1 d2
 ·exact h
theorem ino_inj_nd {k v:List Nat} {l r:Tp} (h:riseP (ino (.nd k v l r))):ino l=lowP (ino (.nd k v l r)) k∧ino r=higP (ino (.nd k v l r)) k:=by
 have i1:ino (.nd k v l r)=ino l++(k,v)::ino r:=rfl
 rw [i1] at h ⊢
 obtain ⟨h1,⟨h2,h3⟩,h4⟩:=riseP_app.1 h
 have lo:∀x∈ino l,lessA x.1 k=true:=fun x hx=>h4 x hx (k,v) (by simp)
 have hi:∀x∈ino r,lessA k x.1=true:=fun x hx=>h2 x hx
 unfold lowP higP
 rw [List.filter_append,List.filter_append,List.filter_cons,List.filter_cons]
 have irr:=lessA_irr k
 refine ⟨?_,?_⟩
 ·rw [if_neg (by simp [irr]),List.filter_eq_self.2 lo,List.filter_eq_nil_iff.2 (fun x hx hh=>by rw [lessA_asym (hi x hx)] at hh;cases hh),List.append_nil]
 ·rw [if_neg (by simp [irr]),List.filter_eq_self.2 hi,List.filter_eq_nil_iff.2 (fun x hx hh=>by rw [lessA_asym (lo x hx)] at hh;cases hh),List.nil_append]
theorem hp_uniq:∀ {a b:Tp},ino a=ino b→riseP (ino a)→Hp a→Hp b→a=b
 | .nil,.nil,_,_,_,_=>rfl
 | .nil,.nd k v l r,h,_,_,_=>by
  have:=congrArg List.length h
  simp [ino] at this
 | .nd k v l r,.nil,h,_,_,_=>by
  have:=congrArg List.length h
  simp [ino] at this
 | .nd k v l r,.nd k2 v2 l2 r2,h,hr,⟨a1,a2,a3,a4⟩,⟨b1,b2,b3,b4⟩=>by
  have i1:ino (.nd k v l r)=ino l++(k,v)::ino r:=rfl
  have i2:ino (.nd k2 v2 l2 r2)=ino l2++(k2,v2)::ino r2:=rfl
  have hk:k=k2:=by
   by_cases hkk:k=k2
   ·exact hkk
   ·exfalso
    have m1:(k,v)∈ino (.nd k2 v2 l2 r2):=by rw [←h,i1];simp
    have m2:(k2,v2)∈ino (.nd k v l r):=by rw [h,i2];simp
    have x1:aboveA k2 k=true:=by
     rw [i2] at m1
     rcases List.mem_append.1 m1 with m | m
     ·exact b1 _ m
     ·rcases List.mem_cons.1 m with m | m
      ·exact absurd (Prod.mk.inj m).1 hkk
      ·exact b2 _ m
    have x2:aboveA k k2=true:=by
     rw [i1] at m2
     rcases List.mem_append.1 m2 with m | m
     ·exact a1 _ m
     ·rcases List.mem_cons.1 m with m | m
      ·exact absurd (Prod.mk.inj m).1.symm hkk
      ·exact a2 _ m
    exact aboveA_asym x1 x2
  subst hk
  obtain ⟨l1,r1⟩:=ino_inj_nd hr
  obtain ⟨l3,r3⟩:=ino_inj_nd (h▸hr)
  have el:ino l=ino l2:=by rw [l1,l3,h]
  have er:ino r=ino r2:=by rw [r1,r3,h]
  rw [i1,i2,el,er] at h
  have hv:v=v2:=by
   have:=List.append_cancel_left h
   exact (Prod.mk.inj (List.cons.inj this).1).2
  obtain ⟨hrl,⟨_,hrr⟩,_⟩:=riseP_app.1 (i1▸hr)
  rw [hv,hp_uniq el hrl a3 b3,hp_uniq er hrr a4 b4]
def nodT:Tp→KL (List Nat)
 | .nil=>[]
 | .nd k v l r=>(k,v)::(nodT l++nodT r)
theorem nod_len:∀t:Tp,(nodT t).length=t.size
 | .nil=>rfl
 | .nd k v l r=>by
  show (nodT l++nodT r).length+1=l.size+r.size+1
  rw [List.length_append,nod_len l,nod_len r]
theorem nod_mem {e:List Nat×List Nat}:∀ {t:Tp},e∈nodT t↔e∈ino t
 | .nil=>Iff.rfl
 | .nd k v l r=>by
  show e∈(k,v)::(nodT l++nodT r)↔e∈ino l++(k,v)::ino r
  simp only [List.mem_cons,List.mem_append,nod_mem (t:=l),nod_mem (t:=r)]
  constructor
  ·rintro (h | h | h) <;> simp [h]
  ·rintro (h | h | h) <;> simp [h]
end Go.Abs
end

section
namespace Go.Abs
open Go Go.Abs.Wal
set_option linter.unusedVariables false
namespace Rec
structure Sx where
 l:Lg
 T:TT
 L:KL (List Nat)
def asdX (p q:Pth) (gr:Nat) (s:Sx):Nat×Lg×TT :=
 if gr<s.l.size∧(allP s.L).2=0∧2*((allP s.L).1.length+8)<s.l.size then asideL p q s.l s.T [(allP s.L).1] else (0,s.l,s.T)
def batX (p q:Pth) (gr:Nat) (s:Sx) (b:KL (List Nat×Bool)):Nat×Sx :=
 if (recP b).2≠0 then ((recP b).2,s) else
 let a:=asdX p q gr s
 if a.1≠0 then (a.1,⟨a.2.1,a.2.2,s.L⟩) else
 let w:=appendL p a.2.1 a.2.2 (recP b).1
 if w.1≠0 then (w.1,⟨w.2.1,w.2.2,s.L⟩) else
 let y:=syncL p w.2.1 w.2.2
 if y.1≠0 then (y.1,⟨y.2.1,y.2.2,s.L⟩) else (0,⟨y.2.1,y.2.2,doneP s.L (lastD b)⟩)
def ordX (p q:Pth) (s:Sx):Nat×Sx :=
 if (allP s.L).2≠0 then ((allP s.L).2,s) else ((asideL p q s.l s.T [(allP s.L).1]).1,⟨(asideL p q s.l s.T [(allP s.L).1]).2.1,(asideL p q s.l s.T [(allP s.L).1]).2.2,s.L⟩)
def telsX:KL (List Nat)→List (List Nat)→KL (List Nat)×Nat
 | L,[]=>(L,0)
 | L,s::r=>if (tellP L s).2≠0 then tellP L s else telsX (tellP L s).1 r
theorem Bm.asdX {n c:Nat} {p q:Pth} {gr:Nat} {s:Sx} (h:Bm n c s.T):Bm (n+6) (c+6) (asdX p q gr s).2.2:=by
 unfold Rec.asdX
 split
 ·unfold asideL
  split
  ·exact h.mono (by omega) (by omega)
  ·have:=h.aside p q (frs [(allP s.L).1])
   dsimp only
   split <;> exact this
 ·exact h.mono (by omega) (by omega)
theorem asdX_size {p q:Pth} {gr:Nat} {s:Sx}:(asdX p q gr s).2.1.size≤s.l.size+(frs [(allP s.L).1]).length∧(asdX p q gr s).2.1.n≤s.l.n+1:=by
 unfold asdX
 split
 ·unfold asideL
  split
  ·exact ⟨by dsimp only;omega,by dsimp only;omega⟩
  ·dsimp only
   split
   ·exact ⟨by dsimp only;omega,by dsimp only;omega⟩
   ·exact ⟨by dsimp only;omega,by simp⟩
 ·exact ⟨by dsimp only;omega,by dsimp only;omega⟩
end Rec
end Go.Abs
end

section
namespace Go.Abs
open Go Go.Abs.Wal
set_option linter.unusedVariables false
namespace Rec
def Wx (R:Int) (p:Pth) (c st:Nat) (a:List (List Nat)) (x:List Nat) (L:KL (List Nat)):Sx:=⟨⟨0,(frs a).length,a.length⟩,Wt R p c false (-1) (frs a) x st,L⟩
theorem nf1:nf (-1)=-1:=by decide
theorem wx_bat {R:Int} {p q:Pth} {c st gr:Nat} {a:List (List Nat)} {x:List Nat} {L:KL (List Nat)} {b:KL (List Nat×Bool)} (hg:(frs a).length≤gr) (hR:(((frs a).length+(recE (lastD b)).length+8:Nat):Int)≤R) :
  ∃c' st' a' x' L',batX p q gr (Wx R p c st a x L) b=((recP b).2,Wx R p c' st' a' x' L')∧c'≤c+1∧((recP b).2=0→a'=a++[recE (lastD b)]∧L'=doneP L (lastD b))∧((recP b).2≠0→a'=a∧L'=L):=by
 by_cases he:(recP b).2=0
 ·have hok:=rec_ok (rec_no he)
  have hA:asdX p q gr (Wx R p c st a x L)=(0,⟨0,(frs a).length,a.length⟩,Wt R p c false (-1) (frs a) x st):=if_neg fun hh=>Nat.not_lt.2 hg hh.1
  have hap:=wt_append (R:=R) (p:=p) (c:=c) (st:=st) (φ:=-1) (z:=frs a) (x:=x) ⟨0,(frs a).length,a.length⟩ rfl (by decide) (s:=recE (lastD b)) hR
  rw [nf1] at hap
  have hsy:=wt_sync (R:=R) (p:=p) (c:=c+1) (st:=c+1) (φ:=-1) (z:=frs a++frm (recE (lastD b))) (x:=x) ⟨0,(frs a).length+(frm (recE (lastD b))).length,a.length+1⟩ rfl (by decide)
  rw [nf1] at hsy
  have hf:frs (a++[recE (lastD b)])=frs a++frm (recE (lastD b)):=by rw [frs_app];simp [frs]
  refine ⟨c+1,c+1,a++[recE (lastD b)],frs a++frm (recE (lastD b)),doneP L (lastD b),?_,Nat.le_refl _,fun _=>⟨rfl,rfl⟩,fun hh=>absurd he hh⟩
  have e:batX p q gr (Wx R p c st a x L) b=if (recP b).2≠0 then ((recP b).2,Wx R p c st a x L) else
    let a':=asdX p q gr (Wx R p c st a x L)
    if a'.1≠0 then (a'.1,⟨a'.2.1,a'.2.2,L⟩) else
    let w:=appendL p a'.2.1 a'.2.2 (recP b).1
    if w.1≠0 then (w.1,⟨w.2.1,w.2.2,L⟩) else
    let y:=syncL p w.2.1 w.2.2
    if y.1≠0 then (y.1,⟨y.2.1,y.2.2,L⟩) else (0,⟨y.2.1,y.2.2,doneP L (lastD b)⟩):=rfl
  rw [e,if_neg (fun hh=>hh he),hA,hok]
  dsimp only
  rw [if_neg (fun hh=>hh rfl),hap]
  dsimp only
  rw [if_neg (fun hh=>hh rfl),hsy]
  dsimp only
  rw [if_neg (fun hh=>hh rfl)]
  unfold Wx
  rw [hf]
  simp
 ·refine ⟨c,st,a,x,L,?_,Nat.le_succ _,fun hh=>absurd hh he,fun _=>⟨rfl,rfl⟩⟩
  unfold batX
  rw [if_pos he]
structure Gd (b:KL (List Nat×Bool)):Prop where
 n:b.length≤500
 w:wtf lenP b≤2500
 y:∀p∈b,byL p.1∧byL p.2.1
theorem Gd.pl {b:KL (List Nat×Bool)} (h:Gd b):∀p∈b,p.1.length<16384∧p.2.1.length<16384:=fun p hp=>by
 have:=wtf_mem hp
 have:=h.w
 omega
theorem Gd.len {b:KL (List Nat×Bool)} (h:Gd b):(recE (lastD b)).length≤3+wtf lenP b+5*b.length:=by
 have h1:=recE_len (lastD b)
 have h2:=wtf_last lenP b
 have h3:=last_len b
 omega
theorem Gd.by {b:KL (List Nat×Bool)} (h:Gd b):byL (recE (lastD b)):=(fit_of (by have:=h.n;omega) (by have:=h.w;omega) h.y).2.2.2.1
theorem Gd.read {b:KL (List Nat×Bool)} (h:Gd b):readP (recE (lastD b))=some ((lastD b).map nrm,false):=read_rec (by have:=last_len b;have:=h.n;omega) fun p hp=>h.pl p (last_mem hp)
theorem Gd.app {a b:KL (List Nat×Bool)} (ha:a.length≤60∧wtf lenP a≤300∧∀p∈a,byL p.1∧byL p.2.1) (hb:b.length≤60∧wtf lenP b≤300∧∀p∈b,byL p.1∧byL p.2.1):Gd (a++b):=by
 refine ⟨by rw [List.length_append];omega,by rw [wtf_app];omega,fun p hp=>?_⟩
 rcases List.mem_append.1 hp with h | h
 ·exact ha.2.2 p h
 ·exact hb.2.2 p h
theorem telsX_cons {L M:KL (List Nat)} {s:List Nat} {r:List (List Nat)} (h:tellP L s=(M,0)):telsX L (s::r)=telsX M r:=by
 show (if (tellP L s).2≠0 then tellP L s else telsX (tellP L s).1 r)=_
 rw [h,if_neg (fun hh=>hh rfl)]
theorem Gd.fit {b:KL (List Nat×Bool)} (h:Gd b):∀l,readP (recE (lastD b))=some (l,false)→l.length≤4096∧(∀p∈l,p.1.length<16384∧p.2.1.length<16384)∧(recE (lastD l)).length≤1048576∧∀b∈recE (lastD l),b<256:=by
 intro l hl
 rw [h.read] at hl
 cases hl
 have h1:=last_len b
 have h2:=h.n
 have h3:=h.len
 have h4:=h.w
 refine ⟨by rw [List.length_map];omega,fun p hp=>?_,?_,?_⟩
 ·obtain ⟨q,hq,rfl⟩:=List.mem_map.1 hp
  have h5:=h.pl q (last_mem hq)
  unfold nrm
  split
  ·exact ⟨h5.1,by simp⟩
  ·exact h5
 ·rw [last_id (riseP_nrm (riseP_last b)),recE_nrm];omega
 ·rw [last_id (riseP_nrm (riseP_last b)),recE_nrm];exact h.by
end Rec
end Go.Abs
end

section
namespace Go.Abs
open Go Go.Abs.Wal
set_option linter.unusedVariables false
theorem getP_some {α:Type} {k:List Nat} {v:α}:∀ {L:KL α},getP L k=some v→(k,v)∈L
 | [],h=>by cases h
 | e::r,h=>by
  rw [getP_cons] at h
  by_cases hk:e.1=k
  ·rw [if_pos hk] at h
   have:e=(k,v):=Prod.ext hk (Option.some.inj h)
   rw [this];exact List.mem_cons_self ..
  ·rw [if_neg hk] at h
   exact List.mem_cons_of_mem _ (getP_some h)
theorem getP_of {α:Type} {k:List Nat} {v:α}:∀ {L:KL α},riseP L→(k,v)∈L→getP L k=some v
 | e::r,hr,h=>by
  rw [getP_cons]
  rcases List.mem_cons.1 h with rfl | h
  ·rw [if_pos rfl]
  ·have hl:=hr.1 _ h
   have:e.1≠k:=fun hh=>by
    rw [hh] at hl
    rw [lessA_irr] at hl
    cases hl
   rw [if_neg this]
   exact getP_of hr.2 h
namespace Rec
theorem fold_same {k v:List Nat}:∀(M:KL (List Nat)) (o:Option (List Nat)),(∀e∈M,e.1=k→e.2=v)→(M.map fun e=>(e.1,(e.2,false))).foldl (stpD k) o=if M.any (fun e=>decide (e.1=k))=true then some v else o
 | [],o,_=>rfl
 | e::r,o,h=>by
  have ih:=fun o=>fold_same r o fun x hx=>h x (List.mem_cons_of_mem _ hx)
  rw [List.map_cons,List.foldl_cons,ih,List.any_cons]
  by_cases hk:e.1=k
  ·have hv:=h e (List.mem_cons_self ..) hk
   have e1:stpD k o (e.1,(e.2,false))=some v:=by simp [stpD,hk,hv]
   rw [e1,decide_eq_true hk]
   simp
  ·have e1:stpD k o (e.1,(e.2,false))=o:=by simp [stpD,hk]
   rw [e1,decide_eq_false hk]
   rfl
theorem done_perm {M L:KL (List Nat)} (hr:riseP L) (hm:∀e,e∈M↔e∈L):doneP [] (lastD (M.map fun e=>(e.1,(e.2,false))))=L:=by
 rw [done_last (L:=[]) trivial]
 refine getP_ext (riseP_done _ trivial) hr fun k=>?_
 rw [getP_done k _ (L:=[]) trivial]
 cases hg:getP L k with
 | none =>
  have hn:M.any (fun e=>decide (e.1=k))=false:=by
   rw [List.any_eq_false]
   intro e he hh
   have h1:=getP_of hr ((hm e).1 he)
   rw [of_decide_eq_true hh,hg] at h1
   cases h1
  rw [fold_same (v:=[]) M _ fun e he hk=>absurd (List.any_eq_true.2 ⟨e,he,decide_eq_true hk⟩) (by rw [hn];decide),hn]
  rfl
 | some v =>
  have hv:=getP_some hg
  have hy:M.any (fun e=>decide (e.1=k))=true:=List.any_eq_true.2 ⟨(k,v),(hm _).2 hv,decide_eq_true rfl⟩
  rw [fold_same (v:=v) M _ fun e he hk=>by
   have h1:=getP_of hr ((hm e).1 he)
   rw [hk,hg] at h1
   exact (Option.some.inj h1).symm,hy]
  rfl
theorem wtf_nod (f:List Nat→List Nat→Nat):∀t:Tp,wtf f (nodT t)=wtf f (ino t)
 | .nil=>rfl
 | .nd k v l r=>by
  have e1:nodT (.nd k v l r)=(k,v)::(nodT l++nodT r):=rfl
  have e2:ino (.nd k v l r)=ino l++(k,v)::ino r:=rfl
  have e3:wtf f ((k,v)::(nodT l++nodT r))=f k v+wtf f (nodT l++nodT r):=rfl
  have e4:wtf f ((k,v)::ino r)=f k v+wtf f (ino r):=rfl
  rw [e1,e2,e3,wtf_app,wtf_app,e4,wtf_nod f l,wtf_nod f r]
  omega
theorem del_mem {k:List Nat}:∀ {L:KL (List Nat)} {x:List Nat×List Nat},x∈delP L k→x∈L
 | [],x,h=>h
 | e::r,x,h=>by
  unfold delP at h
  split at h
  ·rcases List.mem_cons.1 h with rfl | h
   ·exact List.mem_cons_self ..
   ·exact List.mem_cons_of_mem _ (del_mem h)
  ·split at h
   ·exact List.mem_cons_of_mem _ h
   ·exact h
theorem del_wt (f:List Nat→List Nat→Nat) (k:List Nat):∀L:KL (List Nat),wtf f (delP L k)≤wtf f L∧(delP L k).length≤L.length
 | []=>⟨Nat.le_refl _,Nat.le_refl _⟩
 | e::r=>by
  have ih:=del_wt f k r
  have e1:wtf f (e::r)=f e.1 e.2+wtf f r:=rfl
  unfold delP
  split
  ·have e2:wtf f (e::delP r k)=f e.1 e.2+wtf f (delP r k):=rfl
   rw [e1,e2,List.length_cons,List.length_cons]
   omega
  ·split
   ·rw [e1,List.length_cons];omega
   ·exact ⟨Nat.le_refl _,Nat.le_refl _⟩
structure Sm (L:KL (List Nat)) (n w:Nat):Prop where
 len:L.length≤n
 wt:wtf lenK L≤w
 ok:∀p∈L,(p.1≠[]∧p.1.length≤512∧p.2.length≤65536)∧byL p.1∧byL p.2
theorem Sm.done:∀ {m:KL (List Nat×Bool)} {L:KL (List Nat)} {n w:Nat},Sm L n w→(∀p∈m,okP p∧byL p.1∧byL p.2.1)→Sm (doneP L m) (n+m.length) (w+wtf lenP m)
 | [],L,n,w,h,_=>h
 | p::m,L,n,w,h,hm=>by
  obtain ⟨h1,h2,h3⟩:=hm p (List.mem_cons_self ..)
  have hm':∀q∈m,okP q∧byL q.1∧byL q.2.1:=fun q hq=>hm q (List.mem_cons_of_mem _ hq)
  have e:doneP L (p::m)=doneP (if p.2.2=true then delP L p.1 else putP L p.1 p.2.1) m:=rfl
  have ew:wtf lenP (p::m)=p.1.length+p.2.1.length+wtf lenP m:=rfl
  have hs:Sm (if p.2.2=true then delP L p.1 else putP L p.1 p.2.1) (n+1) (w+(p.1.length+p.2.1.length)):=by
   split
   ·have hd:=del_wt lenK p.1 L
    exact ⟨by have:=h.len;omega,by have:=h.wt;omega,fun q hq=>h.ok q (del_mem hq)⟩
   ·rename_i hg
    have hw:=wtf_put lenK p.1 p.2.1 L
    have hl:=putP_len p.1 p.2.1 L
    refine ⟨by have:=h.len;omega,by have:=h.wt;have e3:lenK p.1 p.2.1=p.1.length+p.2.1.length:=rfl;omega,fun q hq=>?_⟩
    rcases putP_mem hq with rfl | hq
    ·exact ⟨⟨h1.1,h1.2.1,h1.2.2.resolve_left hg⟩,h2,h3⟩
    ·exact h.ok q hq
  have:=hs.done hm'
  rw [e,ew,List.length_cons]
  exact ⟨by have:=this.len;omega,by have:=this.wt;omega,this.ok⟩
theorem Sm.pl {L:KL (List Nat)} {n w:Nat} (h:Sm L n w):∀p∈L,p.1.length<16384∧(w<16384→p.2.length<16384):=fun p hp=>by
 have h1:=h.ok p hp
 refine ⟨by have:=h1.1.2.1;omega,fun hw=>?_⟩
 have key:∀ {L:KL (List Nat)},p∈L→p.1.length+p.2.length≤wtf lenK L:=by
  intro L
  induction L with
  | nil=>intro h;cases h
  | cons e r ih =>
   intro h
   have e1:wtf lenK (e::r)=e.1.length+e.2.length+wtf lenK r:=rfl
   rcases List.mem_cons.1 h with rfl | h
   ·omega
   ·have:=ih h;omega
 have:=key hp
 have:=h.wt
 omega
theorem Sm.all {L:KL (List Nat)} {n w:Nat} (h:Sm L n w) (hn:n<16384) (hw:w<16384):(∀p∈L,p.1.length<16384∧p.2.length<16384)∧allP L=(allE L,0)∧(allE L).length≤3+w+4*n∧byL (allE L):=by
 have hp:∀p∈L,p.1.length<16384∧p.2.length<16384:=fun p hp=>⟨(h.pl p hp).1,(h.pl p hp).2 hw⟩
 have h1:=allE_len L
 have h2:=h.len
 have h3:=h.wt
 exact ⟨hp,all_ok fun p hp=>(h.ok p hp).1,by omega,allE_by (by omega) fun q hq=>⟨hp q hq,(h.ok q hq).2⟩⟩
theorem wx_ord {R:Int} {p q:Pth} {c st n w:Nat} {a:List (List Nat)} {x:List Nat} {L:KL (List Nat)} (h:Sm L n w) (hn:n<16384) (hw:w<16384) (hpq:¬p=q) (hR:(((frs a).length+3+w+4*n+8:Nat):Int)≤R) :
  ordX p q (Wx R p c st a x L)=(0,⟨⟨0,(frs [allE L]).length,1⟩,Wu R p (c+1+1+1) ⟨frs a,x,st⟩ (frs [allE L]) (c+1+1),L⟩):=by
 obtain ⟨h1,h2,h3,h4⟩:=h.all hn hw
 have hl:(frs [allE L]).length=(allE L).length+8:=by rw [frs_sum];simp [sumL]
 have ha:=wt_aside (R:=R) (p:=p) (q:=q) (c:=c) (st:=st) (z:=frs a) (x:=x) ⟨0,(frs a).length,a.length⟩ rfl hpq (s:=[allE L]) (by rw [hl];omega)
 unfold ordX Wx
 dsimp only
 rw [h2,if_neg (fun hh=>hh rfl)]
 dsimp only
 rw [ha]
 rfl
end Rec
end Go.Abs
end
