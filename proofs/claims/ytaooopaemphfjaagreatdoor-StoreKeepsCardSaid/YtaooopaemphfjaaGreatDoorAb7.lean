/- The abstract layer, parts 68 to 73. Conditions: none. -/
import Derived.Test.YtaooopaemphfjaaGreatDoorAb6
set_option linter.unusedVariables false
set_option linter.unusedSimpArgs false
section
namespace Go.Abs
open Go
section
variable {α : Type}
def getP:KL α→List Nat→Option α
 | [],_=>none
 | e::r,k=>if e.1=k then some e.2 else getP r k
theorem getP_cons (e:List Nat×α) (r:KL α) (k:List Nat):getP (e::r) k=if e.1=k then some e.2 else getP r k:=rfl
theorem getP_none {k:List Nat}:∀ {L:KL α},(∀x∈L,x.1≠k)→getP L k=none
 | [],_=>rfl
 | e::r,h=>by
  rw [getP_cons,if_neg (h e (by simp))]
  exact getP_none fun x hx=>h x (by simp [hx])
theorem riseP_ne {e:List Nat×α} {r:KL α} (h:riseP (e::r)):getP r e.1=none:=getP_none fun x hx hh=>by
 have:=h.1 x hx
 rw [hh,lessA_irr] at this
 cases this
theorem riseP_lt {e:List Nat×α} {r:KL α} (h:riseP (e::r)) {k:List Nat} (hk:lessA k e.1=true):getP (e::r) k=none:=getP_none fun x hx hh=>by
 rcases List.mem_cons.1 hx with rfl | hx
 ·rw [hh,lessA_irr] at hk;cases hk
 ·have:=lessA_tr _ _ _ hk (h.1 x hx)
  rw [hh,lessA_irr] at this
  cases this
theorem getP_ext:∀ {A B:KL α},riseP A→riseP B→(∀k,getP A k=getP B k)→A=B
 | [],[],_,_,_=>rfl
 | [],b::s,_,_,h=>by
  have:=h b.1
  rw [getP_cons,if_pos rfl] at this
  cases this
 | a::r,[],_,_,h=>by
  have:=h a.1
  rw [getP_cons,if_pos rfl] at this
  cases this
 | a::r,b::s,ha,hb,h=>by
  by_cases hab:a.1=b.1
  ·have h1:=h a.1
   rw [getP_cons,getP_cons,if_pos rfl,if_pos hab.symm] at h1
   have e:a=b:=Prod.ext hab (Option.some.inj h1)
   subst e
   congr 1
   refine getP_ext ha.2 hb.2 fun k=>?_
   by_cases hk:a.1=k
   ·subst hk
    rw [riseP_ne ha,riseP_ne hb]
   ·have h2:=h k
    rw [getP_cons,getP_cons,if_neg hk,if_neg hk] at h2
    exact h2
  ·exfalso
   by_cases hl:lessA a.1 b.1=true
   ·have h1:=h a.1
    rw [riseP_lt hb hl,getP_cons,if_pos rfl] at h1
    cases h1
   ·have hl':=lessA_tot _ _ hab (by simpa using hl)
    have h1:=h b.1
    rw [riseP_lt ha hl',getP_cons,if_pos rfl] at h1
    cases h1
theorem getP_put (k:List Nat) (v:α) (j:List Nat):∀L:KL α,getP (putP L k v) j=if k=j then some v else getP L j
 | []=>rfl
 | e::r=>by
  rw [putP_cons]
  by_cases h1:lessA e.1 k=true
  ·rw [if_pos h1,getP_cons,getP_put k v j r,getP_cons]
   by_cases h2:e.1=j
   ·rw [if_pos h2,if_pos h2,if_neg]
    intro hh
    rw [hh,←h2,lessA_irr] at h1
    cases h1
   ·rw [if_neg h2,if_neg h2]
  ·rw [if_neg h1]
   by_cases h2:e.1=k
   ·rw [if_pos h2,getP_cons,getP_cons]
    by_cases h3:k=j
    ·rw [if_pos h3,if_pos h3]
    ·rw [if_neg h3,if_neg h3,if_neg (fun hh=>h3 (h2.symm.trans hh))]
   ·rw [if_neg h2,getP_cons]
theorem getP_del (k j:List Nat):∀ {L:KL α},riseP L→getP (delP L k) j=if k=j then none else getP L j
 | [],_=>by
  show (none:Option α)=_
  split <;> rfl
 | e::r,h=>by
  unfold delP
  by_cases h1:lessA e.1 k=true
  ·rw [if_pos h1,getP_cons,getP_del k j h.2,getP_cons]
   by_cases h2:e.1=j
   ·rw [if_pos h2,if_pos h2,if_neg]
    intro hh
    rw [hh,←h2,lessA_irr] at h1
    cases h1
   ·rw [if_neg h2,if_neg h2]
  ·rw [if_neg h1]
   by_cases h2:e.1=k
   ·rw [if_pos h2,getP_cons]
    by_cases h3:k=j
    ·rw [if_pos h3,←h3,←h2];exact riseP_ne h
    ·rw [if_neg h3,if_neg (fun hh=>h3 (h2.symm.trans hh))]
   ·rw [if_neg h2]
    by_cases h3:k=j
    ·rw [if_pos h3,←h3]
     exact riseP_lt h (lessA_tot _ _ h2 (by simpa using h1))
    ·rw [if_neg h3]
def lstP (k:List Nat):Option α→KL α→Option α
 | o,[]=>o
 | o,e::r=>lstP k (if e.1=k then some e.2 else o) r
theorem lstP_rise {k:List Nat}:∀ {R:KL α} {o:Option α},riseP R→lstP k o R=match getP R k with | some v=>some v | none=>o
 | [],o,_=>rfl
 | e::r,o,h=>by
  show lstP k (if e.1=k then some e.2 else o) r=_
  rw [lstP_rise h.2,getP_cons]
  by_cases h1:e.1=k
  ·rw [if_pos h1,if_pos h1,←h1,riseP_ne h]
  ·rw [if_neg h1,if_neg h1]
theorem getP_fold (k:List Nat):∀(l L:KL α),getP (l.foldl (fun out p=>putP out p.1 p.2) L) k=lstP k (getP L k) l
 | [],L=>rfl
 | p::l,L=>by
  rw [List.foldl_cons,getP_fold k l,getP_put];rfl
theorem getP_last (k:List Nat) (l:KL α):getP (lastD l) k=lstP k none l:=getP_fold k l []
theorem last_id {R:KL α} (h:riseP R):lastD R=R:=getP_ext (riseP_last R) h fun k=>by
 rw [getP_last,lstP_rise h]
 cases getP R k <;> rfl
end
namespace Rec
def stpD (k:List Nat) (o:Option (List Nat)) (p:Pr):Option (List Nat):=if p.1=k then (if p.2.2=true then none else some p.2.1) else o
theorem getP_done (k:List Nat):∀(l:KL (List Nat×Bool)) {L:KL (List Nat)},riseP L→getP (doneP L l) k=l.foldl (stpD k) (getP L k)
 | [],L,_=>rfl
 | p::l,L,h=>by
  have e:doneP L (p::l)=doneP (if p.2.2=true then delP L p.1 else putP L p.1 p.2.1) l:=rfl
  rw [e,List.foldl_cons]
  by_cases hg:p.2.2=true
  ·rw [if_pos hg,getP_done k l (riseP_del h p.1),getP_del p.1 k h]
   unfold stpD
   rw [if_pos hg]
  ·rw [if_neg hg,getP_done k l (riseP_put h p.1 p.2.1),getP_put]
   unfold stpD
   rw [if_neg hg]
theorem fold_lst (k:List Nat):∀(l:KL (List Nat×Bool)) (o:Option (List Nat)) (v:Option (List Nat×Bool)),l.foldl (stpD k) (match v with | none=>o | some v=>if v.2=true then none else some v.1)=match lstP k v l with | none=>o | some v=>if v.2=true then none else some v.1
 | [],o,v=>rfl
 | p::l,o,v=>by
  rw [List.foldl_cons]
  show _=match lstP k (if p.1=k then some p.2 else v) l with | none=>o | some v=>if v.2=true then none else some v.1
  rw [←fold_lst k l o (if p.1=k then some p.2 else v)]
  congr 1
  unfold stpD
  by_cases h:p.1=k
  ·rw [if_pos h,if_pos h]
  ·rw [if_neg h,if_neg h]
theorem riseP_done:∀(m:KL (List Nat×Bool)) {L:KL (List Nat)},riseP L→riseP (doneP L m)
 | [],L,h=>h
 | p::m,L,h=>by
  have e:doneP L (p::m)=doneP (if p.2.2=true then delP L p.1 else putP L p.1 p.2.1) m:=rfl
  rw [e]
  split
  ·exact riseP_done m (riseP_del h _)
  ·exact riseP_done m (riseP_put h _ _)
theorem done_last {L:KL (List Nat)} (h:riseP L) (l:KL (List Nat×Bool)):doneP L (lastD l)=doneP L l:=getP_ext (riseP_done _ h) (riseP_done _ h) fun k=>by
 rw [getP_done k _ h,getP_done k _ h]
 have a:=fold_lst k (lastD l) (getP L k) none
 have b:=fold_lst k l (getP L k) none
 dsimp only at a b
 rw [a,b,lstP_rise (riseP_last l),getP_last]
 cases lstP k none l <;> rfl
theorem ofP_rise {M:KL (List Nat)} (h:riseP M):ofP (M.map fun e=>(e.1,(e.2,false)))=M:=by
 rw [ofP_last,List.map_map]
 have:M.map ((fun p:List Nat×List Nat×Bool=>(p.1,p.2.1)) ∘ fun e=>(e.1,(e.2,false)))=M:=by
  rw [show ((fun p:List Nat×List Nat×Bool=>(p.1,p.2.1)) ∘ fun e:List Nat×List Nat=>(e.1,(e.2,false)))=id from rfl,List.map_id]
 rw [this]
 exact last_id h
/-! ### Own records read again -/
def nrm (p:Pr):Pr:=if p.2.2=true then (p.1,([],true)) else p
theorem one_rec {p:Pr} (h1:p.1.length<16384) (h2:p.2.1.length<16384) (r:List Nat):(one 1 ⟨pairE p++r,0⟩).2=(nrm p,⟨r,0⟩):=by
 unfold pairE nrm
 cases hg:p.2.2
 ·have e0:(1::(pieceE p.1++pieceE p.2.1))++r=numE 1++(pieceE p.1++(pieceE p.2.1++r)):=by simp [numE]
  rw [if_neg (by decide),e0]
  unfold one
  simp only [if_true,num_back (show (1:Nat)<16384 by decide),piece_back h1,piece_back h2]
  obtain ⟨a,b,c⟩:=p
  simp at hg
  subst hg
  simp
 ·have e0:(0::pieceE p.1)++r=numE 0++(pieceE p.1++r):=by simp [numE]
  rw [if_pos rfl,e0]
  unfold one
  simp only [if_true,num_back (show (0:Nat)<16384 by decide),piece_back h1]
  simp
theorem one_all {p:List Nat×List Nat} (h1:p.1.length<16384) (h2:p.2.length<16384) (r:List Nat):(one 2 ⟨(pieceE p.1++pieceE p.2)++r,0⟩).2=((p.1,(p.2,false)),⟨r,0⟩):=by
 rw [List.append_assoc]
 unfold one
 simp [piece_back h1,piece_back h2]
theorem pairsF_rec:∀(m acc:KL (List Nat×Bool)),(∀p∈m,p.1.length<16384∧p.2.1.length<16384)→pairsF 1 m.length ⟨m.flatMap pairE,0⟩ acc=(acc++m.map nrm,⟨[],0⟩)
 | [],acc,_=>by simp [pairsF]
 | p::m,acc,h=>by
  have hp:=h p (by simp)
  have e:(p::m).flatMap pairE=pairE p++m.flatMap pairE:=rfl
  rw [e]
  show pairsF 1 (m.length+1) _ acc=_
  unfold pairsF
  rw [if_neg (fun hh=>hh rfl),one_rec hp.1 hp.2]
  dsimp only
  rw [pairsF_rec m _ fun q hq=>h q (by simp [hq])]
  simp
theorem pairsF_all:∀(m:KL (List Nat)) (acc:KL (List Nat×Bool)),(∀p∈m,p.1.length<16384∧p.2.length<16384)→pairsF 2 m.length ⟨m.flatMap fun p=>pieceE p.1++pieceE p.2,0⟩ acc=(acc++m.map (fun e=>(e.1,(e.2,false))),⟨[],0⟩)
 | [],acc,_=>by simp [pairsF]
 | p::m,acc,h=>by
  have hp:=h p (by simp)
  have e:((p::m).flatMap fun p=>pieceE p.1++pieceE p.2)=(pieceE p.1++pieceE p.2)++m.flatMap fun p=>pieceE p.1++pieceE p.2:=rfl
  rw [e]
  show pairsF 2 (m.length+1) _ acc=_
  unfold pairsF
  rw [if_neg (fun hh=>hh rfl),one_all hp.1 hp.2]
  dsimp only
  rw [pairsF_all m _ fun q hq=>h q (by simp [hq])]
  simp
theorem flat_ge {α:Type} {f:α→List Nat} (hf:∀p,0<(f p).length):∀m:List α,m.length≤(m.flatMap f).length
 | []=>Nat.le_refl _
 | p::m=>by
  rw [List.flatMap_cons,List.length_append,List.length_cons]
  have:=flat_ge hf m
  have:=hf p
  omega
theorem pairE_pos (p:Pr):0<(pairE p).length:=by
 unfold pairE
 split <;> simp
theorem numE_pos (n:Nat):0<(numE n).length:=by
 unfold numE
 split <;> simp
theorem read_rec {m:KL (List Nat×Bool)} (hn:m.length<16384) (h:∀p∈m,p.1.length<16384∧p.2.1.length<16384):readP (recE m)=some (m.map nrm,false):=by
 have e0:recE m=numE 1++(numE m.length++m.flatMap pairE):=by simp [recE,numE]
 have hl:m.length≤(recE m).length:=by
  have:=flat_ge pairE_pos m
  rw [e0]
  simp only [List.length_append];omega
 unfold readP
 have h1:(Rd.mk (recE m) 0).num=(1,⟨numE m.length++m.flatMap pairE,0⟩):=by rw [e0];exact num_back (by decide) _
 dsimp only
 rw [h1]
 dsimp only
 rw [count_back hn _ hl]
 dsimp only
 rw [pairsF_rec m [] h]
 simp
theorem read_all {m:KL (List Nat)} (hn:m.length<16384) (h:∀p∈m,p.1.length<16384∧p.2.length<16384):readP (allE m)=some (m.map (fun e=>(e.1,(e.2,false))),true):=by
 have e0:allE m=numE 2++(numE m.length++m.flatMap fun p=>pieceE p.1++pieceE p.2):=by simp [allE,numE]
 have hl:m.length≤(allE m).length:=by
  have:=flat_ge (f:=fun p:List Nat×List Nat=>pieceE p.1++pieceE p.2) (fun p=>by
   have:=numE_pos p.1.length
   simp only [pieceE,List.length_append];omega) m
  rw [e0]
  simp only [List.length_append] at this ⊢
  omega
 unfold readP
 have h1:(Rd.mk (allE m) 0).num=(2,⟨numE m.length++m.flatMap fun p=>pieceE p.1++pieceE p.2,0⟩):=by rw [e0];exact num_back (by decide) _
 dsimp only
 rw [h1]
 dsimp only
 rw [count_back hn _ hl]
 dsimp only
 rw [pairsF_all m [] h]
 simp
def okP (p:Pr):Prop:=p.1≠[]∧p.1.length≤512∧(p.2.2=true∨p.2.1.length≤65536)
theorem rec_ok {l:KL (List Nat×Bool)} (h:∀p∈l,okP p):recP l=(recE (lastD l),0):=by
 have a:¬l.any (fun p=>decide (p.1=[]))=true:=fun hh=>by
  obtain ⟨p,hp,h2⟩:=List.any_eq_true.1 hh
  exact (h p hp).1 (of_decide_eq_true h2)
 have b:¬l.any (fun p=>decide (512<p.1.length)||(!p.2.2&&decide (65536<p.2.1.length)))=true:=fun hh=>by
  obtain ⟨p,hp,h2⟩:=List.any_eq_true.1 hh
  obtain ⟨_,h3,h4⟩:=h p hp
  simp only [Bool.or_eq_true,decide_eq_true_eq,Bool.and_eq_true,Bool.not_eq_true'] at h2
  rcases h2 with h2 | ⟨h2,h5⟩
  ·omega
  ·rcases h4 with h4 | h4
   ·rw [h2] at h4;cases h4
   ·omega
 unfold recP
 rw [if_neg a,if_neg b]
theorem rec_no {l:KL (List Nat×Bool)} (h:(recP l).2=0):∀p∈l,okP p:=fun p hp=>by
 unfold recP at h
 split at h
 ·cases h
 ·rename_i a
  split at h
  ·cases h
  ·rename_i b
   refine ⟨fun hh=>a (List.any_eq_true.2 ⟨p,hp,decide_eq_true hh⟩),?_,?_⟩
   ·refine Nat.le_of_not_lt fun hh=>b (List.any_eq_true.2 ⟨p,hp,?_⟩)
    simp [hh]
   ·cases hg:p.2.2
    ·refine .inr (Nat.le_of_not_lt fun hh=>b (List.any_eq_true.2 ⟨p,hp,?_⟩))
     simp [hg,hh]
    ·exact .inl rfl
theorem all_ok {M:KL (List Nat)} (h:∀p∈M,p.1≠[]∧p.1.length≤512∧p.2.length≤65536):allP M=(allE M,0):=by
 have a:¬M.any (fun p=>decide (p.1=[]))=true:=fun hh=>by
  obtain ⟨p,hp,h2⟩:=List.any_eq_true.1 hh
  exact (h p hp).1 (of_decide_eq_true h2)
 have b:¬M.any (fun p=>decide (512<p.1.length)||decide (65536<p.2.length))=true:=fun hh=>by
  obtain ⟨p,hp,h2⟩:=List.any_eq_true.1 hh
  obtain ⟨_,h3,h4⟩:=h p hp
  simp only [Bool.or_eq_true,decide_eq_true_eq] at h2
  omega
 unfold allP
 rw [if_neg a,if_neg b]
theorem nrm_key (p:Pr):(nrm p).1=p.1:=by unfold nrm;split <;> rfl
theorem nrm_pairE (p:Pr):pairE (nrm p)=pairE p:=by
 unfold nrm
 by_cases h:p.2.2=true
 ·rw [if_pos h]
  unfold pairE
  rw [if_pos rfl,if_pos h]
 ·rw [if_neg h]
theorem riseP_nrm:∀ {m:KL (List Nat×Bool)},riseP m→riseP (m.map nrm)
 | [],_=>trivial
 | p::m,h=>⟨fun x hx=>by
   obtain ⟨q,hq,rfl⟩:=List.mem_map.1 hx
   rw [nrm_key,nrm_key]
   exact h.1 q hq,riseP_nrm h.2⟩
theorem recE_nrm (m:KL (List Nat×Bool)):recE (m.map nrm)=recE m:=by
 unfold recE
 rw [List.length_map,List.flatMap_map]
 have:(fun a=>pairE (nrm a))=pairE:=funext nrm_pairE
 rw [this]
theorem done_nrm:∀(m:KL (List Nat×Bool)) (L:KL (List Nat)),doneP L (m.map nrm)=doneP L m
 | [],L=>rfl
 | p::m,L=>by
  have e:∀(q:Pr) (m:KL (List Nat×Bool)),doneP L (q::m)=doneP (if q.2.2=true then delP L q.1 else putP L q.1 q.2.1) m:=fun _ _=>rfl
  rw [List.map_cons,e,e,done_nrm m]
  congr 1
  unfold nrm
  by_cases h:p.2.2=true
  ·rw [if_pos h,if_pos rfl,if_pos h]
  ·rw [if_neg h]
theorem nrm_ok {p:Pr} (h:okP p):okP (nrm p):=by
 unfold nrm
 split
 ·exact ⟨h.1,h.2.1,.inl rfl⟩
 ·exact h
theorem tell_rec {m:KL (List Nat×Bool)} (hr:riseP m) (hn:m.length<16384) (h:∀p∈m,p.1.length<16384∧p.2.1.length<16384) (hok:∀p∈m,okP p) (L:KL (List Nat)):tellP L (recE m)=(doneP L m,0):=by
 unfold tellP
 rw [read_rec hn h]
 dsimp only
 rw [rec_ok (l:=m.map nrm) fun p hp=>by
  obtain ⟨q,hq,rfl⟩:=List.mem_map.1 hp
  exact nrm_ok (hok q hq),last_id (riseP_nrm hr),recE_nrm,if_pos rfl,done_nrm]
theorem tell_all {M:KL (List Nat)} (hr:riseP M) (hn:M.length<16384) (h:∀p∈M,p.1.length<16384∧p.2.length<16384) (hok:∀p∈M,p.1≠[]∧p.1.length≤512∧p.2.length≤65536) (L:KL (List Nat)):tellP L (allE M)=(M,0):=by
 unfold tellP
 rw [read_all hn h]
 dsimp only
 rw [ofP_rise hr,all_ok hok,if_pos rfl]
end Rec
/-! ### Trees of texts: heaps -/
theorem aboveA_iff (a b:List Nat):aboveA a b=true↔(rankA b).toNat<(rankA a).toNat∨((rankA a).toNat=(rankA b).toNat∧lessA a b=true):=by
 unfold aboveA
 simp
theorem aboveA_tr {a b c:List Nat} (h1:aboveA a b=true) (h2:aboveA b c=true):aboveA a c=true:=by
 rw [aboveA_iff] at h1 h2 ⊢
 rcases h1 with h1 | ⟨h1,h1'⟩ <;> rcases h2 with h2 | ⟨h2,h2'⟩
 ·exact .inl (by omega)
 ·exact .inl (by omega)
 ·exact .inl (by omega)
 ·exact .inr ⟨by omega,lessA_tr _ _ _ h1' h2'⟩
theorem aboveA_asym {a b:List Nat} (h1:aboveA a b=true):¬aboveA b a=true:=fun h2=>by
 rw [aboveA_iff] at h1 h2
 rcases h1 with h1 | ⟨h1,h1'⟩ <;> rcases h2 with h2 | ⟨h2,h2'⟩
 ·omega
 ·omega
 ·omega
 ·rw [lessA_asym h1'] at h2';cases h2'
theorem aboveA_tot {a b:List Nat} (hne:a≠b) (h:¬aboveA a b=true):aboveA b a=true:=by
 rw [aboveA_iff] at h ⊢
 by_cases h1:(rankA a).toNat<(rankA b).toNat
 ·exact .inl h1
 ·by_cases h2:(rankA b).toNat<(rankA a).toNat
  ·exact absurd (.inl h2) h
  ·refine .inr ⟨by omega,?_⟩
   refine lessA_tot _ _ hne ?_
   cases hl:lessA a b
   ·rfl
   ·exact absurd (.inr ⟨by omega,hl⟩) h
def Hp:Tp→Prop
 | .nil=>True
 | .nd k v l r=>(∀e∈ino l,aboveA k e.1=true)∧(∀e∈ino r,aboveA k e.1=true)∧Hp l∧Hp r
theorem cut_sub (key:List Nat):∀t:Tp,(∀e∈ino (cutT key t).1,e∈ino t)∧∀e∈ino (cutT key t).2,e∈ino t
 | .nil=>⟨fun e h=>h,fun e h=>h⟩
 | .nd k v l r=>by
  have e:ino (.nd k v l r)=ino l++(k,v)::ino r:=rfl
  rw [e]
  obtain ⟨l1,l2⟩:=cut_sub key l
  obtain ⟨r1,r2⟩:=cut_sub key r
  unfold cutT
  split
  ·refine ⟨fun x hx=>?_,fun x hx=>by simp [r2 x hx]⟩
   have hx':x∈ino l++(k,v)::ino (cutT key r).1:=hx
   rcases List.mem_append.1 hx' with h | h
   ·simp [h]
   ·rcases List.mem_cons.1 h with h | h
    ·simp [h]
    ·simp [r1 x h]
  ·refine ⟨fun x hx=>by simp [l1 x hx],fun x hx=>?_⟩
   have hx':x∈ino (cutT key l).2++(k,v)::ino r:=hx
   rcases List.mem_append.1 hx' with h | h
   ·simp [l2 x h]
   ·rcases List.mem_cons.1 h with h | h
    ·simp [h]
    ·simp [h]
theorem hp_cut (key:List Nat):∀ {t:Tp},Hp t→Hp (cutT key t).1∧Hp (cutT key t).2
 | .nil,_=>⟨trivial,trivial⟩
 | .nd k v l r,⟨h1,h2,h3,h4⟩=>by
  obtain ⟨l1,l2⟩:=hp_cut key h3
  obtain ⟨r1,r2⟩:=hp_cut key h4
  obtain ⟨sl1,sl2⟩:=cut_sub key l
  obtain ⟨sr1,sr2⟩:=cut_sub key r
  unfold cutT
  split
  ·exact ⟨⟨h1,fun e he=>h2 e (sr1 e he),h3,r1⟩,r2⟩
  ·exact ⟨l1,fun e he=>h1 e (sl2 e he),h2,l2,h4⟩
theorem hp_joinF:∀(n:Nat) (a b:Tp),a.size+b.size<n→riseP (ino a++ino b)→Hp a→Hp b→Hp (joinF n a b)
 | 0,a,b,h,_,_,_=>by omega
 | n+1,.nil,b,_,_,_,hb=>hb
 | n+1,.nd k v l r,.nil,_,_,ha,_=>ha
 | n+1,.nd k v l r,.nd k2 v2 l2 r2,h,hr,⟨a1,a2,a3,a4⟩,⟨b1,b2,b3,b4⟩=>by
  have e1:(Tp.nd k v l r).size=l.size+r.size+1:=rfl
  have e2:(Tp.nd k2 v2 l2 r2).size=l2.size+r2.size+1:=rfl
  have i1:ino (.nd k v l r)=ino l++(k,v)::ino r:=rfl
  have i2:ino (.nd k2 v2 l2 r2)=ino l2++(k2,v2)::ino r2:=rfl
  obtain ⟨hra,hrb,hab⟩:=riseP_app.1 hr
  have hlt:lessA k k2=true:=hab (k,v) (by rw [i1];simp) (k2,v2) (by rw [i2];simp)
  unfold joinF
  by_cases hk:aboveA k k2=true
  ·rw [if_pos hk]
   have hr':riseP (ino r++ino (.nd k2 v2 l2 r2)):=by
    rw [i1] at hra
    refine riseP_app.2 ⟨(riseP_app.1 hra).2.1.2,hrb,fun x hx y hy=>hab x (by rw [i1];simp [hx]) y hy⟩
   refine ⟨a1,fun e he=>?_,a3,hp_joinF n r _ (by omega) hr' a4 ⟨b1,b2,b3,b4⟩⟩
   rw [ino_joinF n r _ (by omega)] at he
   rcases List.mem_append.1 he with he | he
   ·exact a2 e he
   ·rw [i2] at he
    rcases List.mem_append.1 he with he | he
    ·exact aboveA_tr hk (b1 e he)
    ·rcases List.mem_cons.1 he with rfl | he
     ·exact hk
     ·exact aboveA_tr hk (b2 e he)
  ·rw [if_neg hk]
   have hk2:=aboveA_tot (lessA_ne hlt) hk
   have hr':riseP (ino (.nd k v l r)++ino l2):=by
    rw [i2] at hrb
    refine riseP_app.2 ⟨hra,(riseP_app.1 hrb).1,fun x hx y hy=>hab x hx y (by rw [i2];simp [hy])⟩
   refine ⟨fun e he=>?_,b2,hp_joinF n _ l2 (by omega) hr' ⟨a1,a2,a3,a4⟩ b3,b4⟩
   rw [ino_joinF n _ l2 (by omega)] at he
   rcases List.mem_append.1 he with he | he
   ·rw [i1] at he
    rcases List.mem_append.1 he with he | he
    ·exact aboveA_tr hk2 (a1 e he)
    ·rcases List.mem_cons.1 he with rfl | he
     ·exact hk2
     ·exact aboveA_tr hk2 (a2 e he)
   ·exact b1 e he
theorem hp_join {a b:Tp} (hr:riseP (ino a++ino b)) (ha:Hp a) (hb:Hp b):Hp (joinT a b):=hp_joinF _ a b (Nat.lt_succ_self _) hr ha hb
theorem hp_put {t:Tp} (hr:riseP (ino t)) (h:Hp t) (k v:List Nat):Hp (putT2 t k v):=by
 obtain ⟨c1,c2⟩:=hp_cut k h
 obtain ⟨d1,d2⟩:=hp_cut (k++[0]) c2
 have e:=ino_put hr k v
 unfold putT2 at e ⊢
 have hrp:=riseP_put hr k v
 rw [←e,ino_join] at hrp
 have h1:=(riseP_app.1 hrp).1
 rw [ino_join] at h1
 refine hp_join hrp (hp_join h1 c1 ⟨(fun e he=>by cases he),(fun e he=>by cases he),trivial,trivial⟩) d2
theorem hp_drop {t:Tp} (hr:riseP (ino t)) (h:Hp t) (k:List Nat):Hp (dropT2 t k):=by
 obtain ⟨c1,c2⟩:=hp_cut k h
 obtain ⟨d1,d2⟩:=hp_cut (k++[0]) c2
 have e:=ino_drop hr k
 unfold dropT2 at e ⊢
 split
 ·rename_i hc
  rw [if_pos hc,ino_join] at e
  have hrd:=riseP_del hr k
  rw [←e] at hrd
  exact hp_join hrd c1 d2
 ·exact h
theorem ino_inj_nd {k v:List Nat} {l r:Tp} (h:riseP (ino (.nd k v l r))):ino l=lowP (ino (.nd k v l r)) k∧ino r=higP (ino (.nd k v l r)) k:=by
 have i1:ino (.nd k v l r)=ino l++(k,v)::ino r:=rfl
 rw [i1] at h ⊢
 obtain ⟨h1,⟨h2,h3⟩,h4⟩:=riseP_app.1 h
 have lo:∀x∈ino l,lessA x.1 k=true:=fun x hx=>h4 x hx (k,v) (by simp)
 have hi:∀x∈ino r,lessA k x.1=true:=fun x hx=>h2 x hx
 unfold lowP higP
 rw [List.filter_append,List.filter_append,List.filter_cons,List.filter_cons]
 have irr:=lessA_irr k
 refine ⟨?_,?_⟩
 ·rw [if_neg (by simp [irr]),List.filter_eq_self.2 lo,List.filter_eq_nil_iff.2 (fun x hx hh=>by rw [lessA_asym (hi x hx)] at hh;cases hh),List.append_nil]
 ·rw [if_neg (by simp [irr]),List.filter_eq_self.2 hi,List.filter_eq_nil_iff.2 (fun x hx hh=>by rw [lessA_asym (lo x hx)] at hh;cases hh),List.nil_append]
theorem hp_uniq:∀ {a b:Tp},ino a=ino b→riseP (ino a)→Hp a→Hp b→a=b
 | .nil,.nil,_,_,_,_=>rfl
 | .nil,.nd k v l r,h,_,_,_=>by
  have:=congrArg List.length h
  simp [ino] at this
 | .nd k v l r,.nil,h,_,_,_=>by
  have:=congrArg List.length h
  simp [ino] at this
 | .nd k v l r,.nd k2 v2 l2 r2,h,hr,⟨a1,a2,a3,a4⟩,⟨b1,b2,b3,b4⟩=>by
  have i1:ino (.nd k v l r)=ino l++(k,v)::ino r:=rfl
  have i2:ino (.nd k2 v2 l2 r2)=ino l2++(k2,v2)::ino r2:=rfl
  have hk:k=k2:=by
   by_cases hkk:k=k2
   ·exact hkk
   ·exfalso
    have m1:(k,v)∈ino (.nd k2 v2 l2 r2):=by rw [←h,i1];simp
    have m2:(k2,v2)∈ino (.nd k v l r):=by rw [h,i2];simp
    have x1:aboveA k2 k=true:=by
     rw [i2] at m1
     rcases List.mem_append.1 m1 with m | m
     ·exact b1 _ m
     ·rcases List.mem_cons.1 m with m | m
      ·exact absurd (Prod.mk.inj m).1 hkk
      ·exact b2 _ m
    have x2:aboveA k k2=true:=by
     rw [i1] at m2
     rcases List.mem_append.1 m2 with m | m
     ·exact a1 _ m
     ·rcases List.mem_cons.1 m with m | m
      ·exact absurd (Prod.mk.inj m).1.symm hkk
      ·exact a2 _ m
    exact aboveA_asym x1 x2
  subst hk
  obtain ⟨l1,r1⟩:=ino_inj_nd hr
  obtain ⟨l3,r3⟩:=ino_inj_nd (h▸hr)
  have el:ino l=ino l2:=by rw [l1,l3,h]
  have er:ino r=ino r2:=by rw [r1,r3,h]
  rw [i1,i2,el,er] at h
  have hv:v=v2:=by
   have:=List.append_cancel_left h
   exact (Prod.mk.inj (List.cons.inj this).1).2
  obtain ⟨hrl,⟨_,hrr⟩,_⟩:=riseP_app.1 (i1▸hr)
  rw [hv,hp_uniq el hrl a3 b3,hp_uniq er hrr a4 b4]
def nodT:Tp→KL (List Nat)
 | .nil=>[]
 | .nd k v l r=>(k,v)::(nodT l++nodT r)
theorem nod_len:∀t:Tp,(nodT t).length=t.size
 | .nil=>rfl
 | .nd k v l r=>by
  show (nodT l++nodT r).length+1=l.size+r.size+1
  rw [List.length_append,nod_len l,nod_len r]
open Go.Abs.Wal
namespace Rec
structure Sx where
 l:Lg
 T:TT
 L:KL (List Nat)
def asdX (p q:Pth) (gr:Nat) (s:Sx):Nat×Lg×TT :=
 if gr<s.l.size∧(allP s.L).2=0∧2*((allP s.L).1.length+8)<s.l.size then asideL p q s.l s.T [(allP s.L).1] else (0,s.l,s.T)
def batX (p q:Pth) (gr:Nat) (s:Sx) (b:KL (List Nat×Bool)):Nat×Sx :=
 if (recP b).2≠0 then ((recP b).2,s) else
 let a:=asdX p q gr s
 if a.1≠0 then (a.1,⟨a.2.1,a.2.2,s.L⟩) else
 let w:=appendL p a.2.1 a.2.2 (recP b).1
 if w.1≠0 then (w.1,⟨w.2.1,w.2.2,s.L⟩) else
 let y:=syncL p w.2.1 w.2.2
 if y.1≠0 then (y.1,⟨y.2.1,y.2.2,s.L⟩) else (0,⟨y.2.1,y.2.2,doneP s.L (lastD b)⟩)
def telsX:KL (List Nat)→List (List Nat)→KL (List Nat)×Nat
 | L,[]=>(L,0)
 | L,s::r=>if (tellP L s).2≠0 then tellP L s else telsX (tellP L s).1 r
theorem Bm.asdX {n c:Nat} {p q:Pth} {gr:Nat} {s:Sx} (h:Bm n c s.T):Bm (n+6) (c+6) (asdX p q gr s).2.2:=by
 unfold Rec.asdX
 split
 ·unfold asideL
  split
  ·exact h.mono (by omega) (by omega)
  ·have:=h.aside p q (frs [(allP s.L).1])
   dsimp only
   split <;> exact this
 ·exact h.mono (by omega) (by omega)
theorem asdX_size {p q:Pth} {gr:Nat} {s:Sx}:(asdX p q gr s).2.1.size≤s.l.size+(frs [(allP s.L).1]).length∧(asdX p q gr s).2.1.n≤s.l.n+1:=by
 unfold asdX
 split
 ·unfold asideL
  split
  ·exact ⟨by dsimp only;omega,by dsimp only;omega⟩
  ·dsimp only
   split
   ·exact ⟨by dsimp only;omega,by dsimp only;omega⟩
   ·exact ⟨by dsimp only;omega,by simp⟩
 ·exact ⟨by dsimp only;omega,by dsimp only;omega⟩
end Rec
namespace Rec
structure Gd (b:KL (List Nat×Bool)):Prop where
 n:b.length≤500
 w:wtf lenP b≤3000
 y:∀p∈b,byL p.1∧byL p.2.1
theorem Gd.pl {b:KL (List Nat×Bool)} (h:Gd b):∀p∈b,p.1.length<16384∧p.2.1.length<16384:=fun p hp=>by
 have:=wtf_mem hp
 have:=h.w
 omega
theorem Gd.len {b:KL (List Nat×Bool)} (h:Gd b):(recE (lastD b)).length≤3+wtf lenP b+5*b.length:=by
 have h1:=recE_len (lastD b)
 have h2:=wtf_last lenP b
 have h3:=last_len b
 omega
theorem Gd.by {b:KL (List Nat×Bool)} (h:Gd b):byL (recE (lastD b)):=(fit_of (by have:=h.n;omega) (by have:=h.w;omega) h.y).2.2.2.1
theorem Gd.tell {b:KL (List Nat×Bool)} (h:Gd b) (hok:(recP b).2=0) (L:KL (List Nat)):tellP L (recE (lastD b))=(doneP L (lastD b),0) :=
 tell_rec (riseP_last b) (by have:=last_len b;have:=h.n;omega) (fun p hp=>h.pl p (last_mem hp)) (fun p hp=>rec_no hok p (last_mem hp)) L
theorem Gd.read {b:KL (List Nat×Bool)} (h:Gd b):readP (recE (lastD b))=some ((lastD b).map nrm,false):=read_rec (by have:=last_len b;have:=h.n;omega) fun p hp=>h.pl p (last_mem hp)
theorem telsX_cons {L M:KL (List Nat)} {s:List Nat} {r:List (List Nat)} (h:tellP L s=(M,0)):telsX L (s::r)=telsX M r:=by
 show (if (tellP L s).2≠0 then tellP L s else telsX (tellP L s).1 r)=_
 rw [h,if_neg (fun hh=>hh rfl)]
theorem Gd.fit {b:KL (List Nat×Bool)} (h:Gd b):∀l,readP (recE (lastD b))=some (l,false)→l.length≤4096∧(∀p∈l,p.1.length<16384∧p.2.1.length<16384)∧(recE (lastD l)).length≤1048576∧∀b∈recE (lastD l),b<256:=by
 intro l hl
 rw [h.read] at hl
 cases hl
 have h1:=last_len b
 have h2:=h.n
 have h3:=h.len
 have h4:=h.w
 refine ⟨by rw [List.length_map];omega,fun p hp=>?_,?_,?_⟩
 ·obtain ⟨q,hq,rfl⟩:=List.mem_map.1 hp
  have h5:=h.pl q (last_mem hq)
  unfold nrm
  split
  ·exact ⟨h5.1,by simp⟩
  ·exact h5
 ·rw [last_id (riseP_nrm (riseP_last b)),recE_nrm];omega
 ·rw [last_id (riseP_nrm (riseP_last b)),recE_nrm];exact h.by
end Rec
namespace Rec
theorem del_mem {k:List Nat}:∀ {L:KL (List Nat)} {x:List Nat×List Nat},x∈delP L k→x∈L
 | [],x,h=>h
 | e::r,x,h=>by
  unfold delP at h
  split at h
  ·rcases List.mem_cons.1 h with rfl | h
   ·exact List.mem_cons_self ..
   ·exact List.mem_cons_of_mem _ (del_mem h)
  ·split at h
   ·exact List.mem_cons_of_mem _ h
   ·exact h
theorem del_wt (f:List Nat→List Nat→Nat) (k:List Nat):∀L:KL (List Nat),wtf f (delP L k)≤wtf f L∧(delP L k).length≤L.length
 | []=>⟨Nat.le_refl _,Nat.le_refl _⟩
 | e::r=>by
  have ih:=del_wt f k r
  have e1:wtf f (e::r)=f e.1 e.2+wtf f r:=rfl
  unfold delP
  split
  ·have e2:wtf f (e::delP r k)=f e.1 e.2+wtf f (delP r k):=rfl
   rw [e1,e2,List.length_cons,List.length_cons]
   omega
  ·split
   ·rw [e1,List.length_cons];omega
   ·exact ⟨Nat.le_refl _,Nat.le_refl _⟩
structure Sm (L:KL (List Nat)) (n w:Nat):Prop where
 len:L.length≤n
 wt:wtf lenK L≤w
 ok:∀p∈L,(p.1≠[]∧p.1.length≤512∧p.2.length≤65536)∧byL p.1∧byL p.2
theorem Sm.done:∀ {m:KL (List Nat×Bool)} {L:KL (List Nat)} {n w:Nat},Sm L n w→(∀p∈m,okP p∧byL p.1∧byL p.2.1)→Sm (doneP L m) (n+m.length) (w+wtf lenP m)
 | [],L,n,w,h,_=>h
 | p::m,L,n,w,h,hm=>by
  obtain ⟨h1,h2,h3⟩:=hm p (List.mem_cons_self ..)
  have hm':∀q∈m,okP q∧byL q.1∧byL q.2.1:=fun q hq=>hm q (List.mem_cons_of_mem _ hq)
  have e:doneP L (p::m)=doneP (if p.2.2=true then delP L p.1 else putP L p.1 p.2.1) m:=rfl
  have ew:wtf lenP (p::m)=p.1.length+p.2.1.length+wtf lenP m:=rfl
  have hs:Sm (if p.2.2=true then delP L p.1 else putP L p.1 p.2.1) (n+1) (w+(p.1.length+p.2.1.length)):=by
   split
   ·have hd:=del_wt lenK p.1 L
    exact ⟨by have:=h.len;omega,by have:=h.wt;omega,fun q hq=>h.ok q (del_mem hq)⟩
   ·rename_i hg
    have hw:=wtf_put lenK p.1 p.2.1 L
    have hl:=putP_len p.1 p.2.1 L
    refine ⟨by have:=h.len;omega,by have:=h.wt;have e3:lenK p.1 p.2.1=p.1.length+p.2.1.length:=rfl;omega,fun q hq=>?_⟩
    rcases putP_mem hq with rfl | hq
    ·exact ⟨⟨h1.1,h1.2.1,h1.2.2.resolve_left hg⟩,h2,h3⟩
    ·exact h.ok q hq
  have:=hs.done hm'
  rw [e,ew,List.length_cons]
  exact ⟨by have:=this.len;omega,by have:=this.wt;omega,this.ok⟩
end Rec
namespace Wal
def Wg (R:Int) (p:Pth) (c:Nat) (off:Bool) (φ:Int) (i:Nat) (fs:List Fil):TT:=⟨R,[(p,i)],[(p,i)],[],c,off,φ,fs⟩
def Prg (p q:Pth) (R:Int) (z x y:List Nat) (T:TT):Prop:=T.room=R∧∃i st,T.safe=[(p,i)]∧T.files[i]? = some ⟨z,x,st⟩ ∧
 (T.notes=[]∨∃j,T.notes=[.mk q j]∨(T.notes=[.mk q j,.ren q p]∧∃st',T.files[j]? = some ⟨y,y,st'⟩))
section
variable {p q : Pth} {R : Int} {c i st : Nat} {φ : Int} {fs : List Fil} {z x : List Nat}
theorem g_append (hf:fs[i]? = some ⟨z,x,st⟩) (L:Lg) (hL:L.e=0) (h:φ≠0) {s:List Nat} (hR:((z.length+s.length+8:Nat):Int)≤R) :
  appendL p L (Wg R p c false φ i fs) s=(0,⟨0,L.size+(frm s).length,L.n+1⟩,Wg R p (c+1) false (nf φ) i (fs.set i ⟨z++frm s,x,c+1⟩)):=by
 have e:=putS (R:=R) (Sf:=[(p,i)]) (nt:=[]) (c:=c) (fs:=fs) (N:=[(p,i)]) (q:=p) h (i:=i) (by simp [valS]) hf (g:=fun o=>o++frm s) (by
  simp [lenE,frm_len,hf];simp at hR;omega)
 unfold appendL Wg
 rw [if_neg (by rw [hL];decide),e]
 rfl
theorem g_appendX (L:Lg) (hL:L.e=0) {s:List Nat}:appendL p L (Wg R p c false 0 i fs) s=(11,{ L with e:=11 },Wg R p c true (-1) i fs):=by
 unfold appendL Wg putT
 rw [if_neg (by rw [hL];decide),opX]
 rfl
theorem g_sync (hf:fs[i]? = some ⟨z,x,st⟩) (L:Lg) (hL:L.e=0) (h:φ≠0):syncL p L (Wg R p c false φ i fs)=(0,L,Wg R p c false (nf φ) i (fs.set i ⟨z,z,st⟩)):=by
 obtain ⟨e,z',n⟩:=L
 dsimp only at hL
 subst hL
 have e:=syncS (R:=R) (Sf:=[(p,i)]) (nt:=[]) (c:=c) (fs:=fs) (N:=[(p,i)]) (q:=p) h (i:=i) (by simp [valS]) hf
 unfold syncL Wg
 rw [if_neg (by simp),e]
theorem g_syncX (L:Lg) (hL:L.e=0):syncL p L (Wg R p c false 0 i fs)=(11,{ L with e:=11 },Wg R p c true (-1) i fs):=by
 unfold syncL Wg syncT
 rw [if_neg (by rw [hL];decide),opX]
 rfl
theorem Prg.crash {y r:List Nat} {T:TT} (h:Prg p q R (x++r) x y T) (hpq:¬p=q) (hlt:lessA q p=true∧lessA p q=false) (keep:Int) (ps:List Int) :
  ∃w,Two (crashT T keep ps) p q R w∧(w=y∨∃m,w=x++r.take m):=by
 have hqp:¬q=p:=fun hh=>hpq hh.symm
 obtain ⟨rfl,i,st,h2,h3,h4⟩:=h
 have fin:∀part,∃m,leftF ⟨x++r,x,st⟩ part=x++r.take m:=fun part=>left_ext x r st part
 rcases h4 with h1 | ⟨j,h1 | ⟨h1,st',h4⟩⟩
 ·obtain ⟨part,hh⟩:=crash_one (q:=q) (ps:=ps) (keep:=keep) ((keep_nil h1 _).trans h2) h3
  exact ⟨_,hh,.inr (fin _)⟩
 ·have hk:(max 0 keep).toNat%(T.notes.length+1)=0∨(max 0 keep).toNat%(T.notes.length+1)=1:=by rw [h1];simp;omega
  rcases hk with hk | hk
  ·obtain ⟨part,hh⟩:=crash_one (q:=q) (ps:=ps) (keep:=keep) (T:=T) (p:=p) (i:=i) (by rw [hk];simpa [keepT,doAll] using h2) h3
   exact ⟨_,hh,.inr (fin _)⟩
  ·obtain ⟨part,hh⟩:=crash_two (ps:=ps) (keep:=keep) (T:=T) (p:=p) (q:=q) (i:=i) (j:=j) hpq hlt (by rw [hk];simp [keepT,doAll,doN,h1,h2,updS,hpq]) h3
   exact ⟨_,hh,.inr (fin _)⟩
 ·have hk:(max 0 keep).toNat%(T.notes.length+1)=0∨(max 0 keep).toNat%(T.notes.length+1)=1∨(max 0 keep).toNat%(T.notes.length+1)=2:=by rw [h1];simp;omega
  rcases hk with hk | hk | hk
  ·obtain ⟨part,hh⟩:=crash_one (q:=q) (ps:=ps) (keep:=keep) (T:=T) (p:=p) (i:=i) (by rw [hk];simpa [keepT,doAll] using h2) h3
   exact ⟨_,hh,.inr (fin _)⟩
  ·obtain ⟨part,hh⟩:=crash_two (ps:=ps) (keep:=keep) (T:=T) (p:=p) (q:=q) (i:=i) (j:=j) hpq hlt (by rw [hk];simp [keepT,doAll,doN,h1,h2,updS,hpq]) h3
   exact ⟨_,hh,.inr (fin _)⟩
  ·obtain ⟨part,hh⟩:=crash_one (q:=q) (ps:=ps) (keep:=keep) (T:=T) (p:=p) (i:=j) (by rw [hk];simp [keepT,doAll,doN,h1,h2,updS,delS,valS,hpq,hqp]) h4
   exact ⟨_,hh,.inl (left_all _ _ _)⟩
theorem g_aside (hf:fs[i]? = some ⟨z,x,st⟩) (L:Lg) (hL:L.e=0) (hpq:¬p=q) {s:List (List Nat)} (hR:((z.length+(frs s).length:Nat):Int)≤R) :
  ∃e L' T',asideL p q L (Wg R p c false φ i fs) s=(e,L',T')∧T'.clock≤c+3∧((e=0∧L'=⟨0,(frs s).length,s.length⟩∧∃c' φ' st',T'=Wg R p c' false φ' fs.length (fs++[⟨frs s,frs s,st'⟩]))∨(e≠0∧Prg p q R z x (frs s) T')):=by
 have hqp:¬q=p:=fun hh=>hpq hh.symm
 have hi:i<fs.length:=(List.getElem?_eq_some_iff.1 hf).1
 have fin:∀ {e T'},asideT p q (frs s) (Wg R p c false φ i fs)=(e,T')→T'.clock≤c+3→((e=0∧∃c' φ' st',T'=Wg R p c' false φ' fs.length (fs++[⟨frs s,frs s,st'⟩]))∨(e≠0∧Prg p q R z x (frs s) T')) →
   ∃e L' T',asideL p q L (Wg R p c false φ i fs) s=(e,L',T')∧T'.clock≤c+3∧((e=0∧L'=⟨0,(frs s).length,s.length⟩∧∃c' φ' st',T'=Wg R p c' false φ' fs.length (fs++[⟨frs s,frs s,st'⟩]))∨(e≠0∧Prg p q R z x (frs s) T')):=fun {e T'} he hc h=>by
  unfold asideL
  rw [if_neg (by rw [hL];decide),he]
  dsimp only
  by_cases h0:e=0
  ·rw [if_neg (by omega)]
   subst h0
   rcases h with ⟨_,h⟩ | ⟨h,_⟩
   ·exact ⟨_,_,_,rfl,hc,.inl ⟨rfl,rfl,h⟩⟩
   ·exact absurd rfl h
  ·rw [if_pos h0]
   rcases h with ⟨h,_⟩ | h
   ·exact absurd h h0
   ·exact ⟨_,_,_,rfl,hc,.inr h⟩
 have h11:(11:Nat)≠0:=by decide
 have hN:At [(p,i)] fs p z.length:=.inr ⟨i,⟨z,x,st⟩,rfl,hf,rfl⟩
 have hm:(remT q (Wg R p c false φ i fs))=(0,Wg R p c false φ i fs):=rem_no (by simp [Wg,valS,hpq])
 have e0:asideT p q (frs s) (Wg R p c false φ i fs)=stepsT (tailT p q (frs s)) (Wg R p c false φ i fs):=steps_ok hm
 obtain ⟨u1,u2,u3⟩:=hN.upd hpq (x:=⟨[],[],c+1⟩) rfl
 have hl:∀x':Fil,(fs++[x'])[fs.length]? = some x':=fun x'=>by simp
 have hs:∀x' y:Fil,(fs++[x']).set fs.length y=fs++[y]:=fun x' y=>by simp
 have hf':∀x':Fil,(fs++[x'])[i]? = some ⟨z,x,st⟩:=fun x'=>by rw [List.getElem?_append_left hi];exact hf
 unfold tailT Wg at e0
 have pa:∀(N:Ixs) (cc:Nat) (o:Bool) (φ':Int) (x':Fil),Prg p q R z x (frs s) ⟨R,N,[(p,i)],[]++[.mk q fs.length],cc,o,φ',fs++[x']⟩:=fun N cc o φ' x'=>⟨rfl,i,st,rfl,hf' x',.inr ⟨fs.length,.inl rfl⟩⟩
 rcases nf_dec (φ:=φ) with h | h
 ·subst h
  rw [steps_bad (f:=fun T=>makeT T true q) makeX h11] at e0
  exact fin e0 (by show c≤c+3;omega) (.inr ⟨h11,rfl,i,st,rfl,hf,.inl rfl⟩)
 rw [steps_ok (makeS h (hN.none hpq))] at e0
 rcases nf_dec (φ:=nf φ) with h2 | h2
 ·rw [h2,steps_bad (f:=fun T=>putT T true q fun _=>frs s) (putX _) h11] at e0
  exact fin e0 (by show c+1≤c+3;omega) (.inr ⟨h11,pa _ _ _ _ _⟩)
 rw [steps_ok (putS h2 u1 (hl _) (by rw [u2];simp;omega)),hs] at e0
 rcases nf_dec (φ:=nf (nf φ)) with h3 | h3
 ·rw [h3,steps_bad (f:=fun T=>syncT T true q) syncX h11] at e0
  exact fin e0 (by show c+1+1≤c+3;omega) (.inr ⟨h11,pa _ _ _ _ _⟩)
 rw [steps_ok (syncS h3 u1 (hl _)),hs] at e0
 rcases nf_dec (φ:=nf (nf (nf φ))) with h4 | h4
 ·rw [h4,steps_bad (f:=fun T=>renT T true q p) renX h11] at e0
  exact fin e0 (by show c+1+1≤c+3;omega) (.inr ⟨h11,pa _ _ _ _ _⟩)
 rw [steps_ok (renS h4 u1 hqp)] at e0
 rcases nf_dec (φ:=nf (nf (nf (nf φ)))) with h5 | h5
 ·rw [h5,steps_bad (f:=syncPT) syncPX h11] at e0
  exact fin e0 (by show c+1+1+1≤c+3;omega) (.inr ⟨h11,rfl,i,st,rfl,hf' _,.inr ⟨fs.length,.inr ⟨rfl,_,hl _⟩⟩⟩)
 rw [steps_ok (syncPS h5),u3] at e0
 refine fin (e:=0) e0 (by show c+1+1+1≤c+3;omega) (.inl ⟨rfl,c+1+1+1,nf (nf (nf (nf (nf φ)))),c+1+1,?_⟩)
 have hd:doAll ([]++[.mk q fs.length]++[.ren q p]) [(p,i)]=[(p,fs.length)]:=by simp [doAll,doN,updS,valS,delS,hpq,hqp]
 rw [hd]
 rfl
end
end Wal
namespace Rec
theorem telsX_app:∀ {a:List (List Nat)} {L M:KL (List Nat)} {b:List (List Nat)},telsX L a=(M,0)→telsX L (a++b)=telsX M b∧a.foldl (fun L x=>(tellP L x).1) L=M
 | [],L,M,b,h=>by cases h;exact ⟨rfl,rfl⟩
 | s::a,L,M,b,h=>by
  have e:∀r,telsX L (s::r)=if (tellP L s).2≠0 then tellP L s else telsX (tellP L s).1 r:=fun _=>rfl
  rw [e] at h
  by_cases h0:(tellP L s).2≠0
  ·rw [if_pos h0] at h
   rw [h] at h0
   exact absurd rfl h0
  ·rw [if_neg h0] at h
   rw [List.cons_append,e,if_neg h0]
   exact telsX_app h
structure Aw (P:List Nat→Prop) (N:Nat) (a:List (List Nat)) (L:KL (List Nat)):Prop where
 tel:telsX [] a=(L,0)
 it:∀i,((a.take i).foldl (fun L x=>(tellP L x).1) []).length≤N
 p:∀x∈a,P x
section
variable {P : List Nat → Prop}
theorem Aw.nil (N:Nat):Aw P N [] []:=⟨rfl,fun i=>by rw [List.take_nil];exact Nat.zero_le _,fun x hx=>by cases hx⟩
theorem Aw.snoc {N M:Nat} {a:List (List Nat)} {L L':KL (List Nat)} {r:List Nat} (h:Aw P N a L) (hr:tellP L r=(L',0)) (hp:P r) (hN:N≤M) (hL:L'.length≤M):Aw P M (a++[r]) L':=by
 obtain ⟨h1,h2⟩:=telsX_app (b:=[r]) h.tel
 refine ⟨by rw [h1,telsX_cons hr];rfl,fun i=>?_,fun x hx=>?_⟩
 ·by_cases hi:i≤a.length
  ·rw [List.take_append_of_le_length hi]
   exact Nat.le_trans (h.it i) hN
  ·rw [List.take_of_length_le (by rw [List.length_append,List.length_singleton];omega),List.foldl_append,h2]
   show (tellP L r).1.length≤M
   rw [hr];exact hL
 ·rcases List.mem_append.1 hx with hx | hx
  ·exact h.p x hx
  ·rw [List.mem_singleton.1 hx];exact hp
theorem Aw.mono {N M:Nat} {a:List (List Nat)} {L:KL (List Nat)} (h:Aw P N a L) (hN:N≤M):Aw P M a L:=⟨h.tel,fun i=>Nat.le_trans (h.it i) hN,h.p⟩
def Vs (L:KL (List Nat)):Prop:=∀p∈L,p.1.length<16384∧p.2.length<16384
theorem Vs.done:∀ {m:KL (List Nat×Bool)} {L:KL (List Nat)},Vs L→(∀p∈m,p.1.length<16384∧p.2.1.length<16384)→Vs (doneP L m)
 | [],L,h,_=>h
 | p::m,L,h,hm=>by
  have e:doneP L (p::m)=doneP (if p.2.2=true then delP L p.1 else putP L p.1 p.2.1) m:=rfl
  rw [e]
  refine Vs.done (m:=m) ?_ fun q hq=>hm q (List.mem_cons_of_mem _ hq)
  split
  ·exact fun q hq=>h q (del_mem hq)
  ·intro q hq
   rcases putP_mem hq with rfl | hq
   ·exact hm p (List.mem_cons_self ..)
   ·exact h q hq
theorem Sm.vall {L:KL (List Nat)} {n w:Nat} (h:Sm L n w) (v:Vs L) (hn:n<16384):allP L=(allE L,0)∧(allE L).length≤3+w+4*n∧byL (allE L):=by
 have h1:=allE_len L
 have h2:=h.len
 have h3:=h.wt
 exact ⟨all_ok fun p hp=>(h.ok p hp).1,by omega,allE_by (by omega) fun q hq=>⟨v q hq,(h.ok q hq).2⟩⟩
structure Kx (P:List Nat→Prop) (p:Pth) (k:Nat) (s:Sx) (a:List (List Nat)):Prop where
 st:∃c φ i fs st n,s.l=⟨0,(frs a).length,n⟩∧s.T=Wg 1048576 p c false φ i fs∧fs[i]? = some ⟨frs a,frs a,st⟩∧c≤3+5*k∧n≤k+1
 aw:Aw P (40*k) a s.L
 sm:Sm s.L (40*k) (3000*k)
 vs:Vs s.L
 rise:riseP s.L
 len:(frs a).length≤3300*k
structure Cx (P:List Nat→Prop) (p q:Pth) (L L':KL (List Nat)) (T:TT):Prop where
 st:∃a b N,Prg p q 1048576 (frs a++frs b) (frs a) (frs [allE L]) T∧Aw P N a L∧(b=[]∨∃r,b=[r]∧Aw P N (a++[r]) L')∧Aw P N [allE L] L∧N≤4000∧(frs a).length≤200000∧(frs b).length≤4000∧(frs [allE L]).length≤200000
theorem frs_one (x:List Nat):frs [x]=frm x:=by simp [frs]
theorem frs_one_len (x:List Nat):(frs [x]).length=x.length+8:=by rw [frs_one,frm_len]
theorem Kx.all {p:Pth} {k:Nat} {s:Sx} {a:List (List Nat)} (h:Kx P p k s a) (hk:k≤60) (hP:P (allE s.L)):allP s.L=(allE s.L,0)∧(allE s.L).length≤3+3000*k+160*k∧byL (allE s.L)∧Aw P (40*k) [allE s.L] s.L:=by
 obtain ⟨h1,h2,h3⟩:=h.sm.vall h.vs (by omega)
 have h4:=tell_all h.rise (by have:=h.sm.len;omega) h.vs (fun p hp=>(h.sm.ok p hp).1) []
 exact ⟨h1,by omega,h3,(Aw.nil (P:=P) 0).snoc h4 hP (Nat.zero_le _) h.sm.len⟩
theorem Kx.cx {p q:Pth} {k:Nat} {s:Sx} {a:List (List Nat)} (h:Kx P p k s a) (hk:k≤60) (hP:P (allE s.L)) (L':KL (List Nat)):Cx P p q s.L L' s.T:=by
 obtain ⟨c,φ,i,fs,st,n,_,e2,e3,_⟩:=h.st
 obtain ⟨_,a2,_,a4⟩:=h.all hk hP
 have hl:=h.len
 refine ⟨a,[],40*k,?_,h.aw,.inl rfl,a4,by omega,by omega,Nat.zero_le _,by rw [frs_one_len];omega⟩
 rw [e2]
 have e:frs a++frs []=frs a:=by simp [frs]
 rw [e]
 exact ⟨rfl,i,st,rfl,e3,.inl rfl⟩
theorem g_put {p q:Pth} {c i st n:Nat} {φ:Int} {fs:List Fil} {a:List (List Nat)} {r y:List Nat} {R:Int} (hf:fs[i]? = some ⟨frs a,frs a,st⟩) (hR:(((frs a).length+r.length+8:Nat):Int)≤R) :
  ∃e l T,appendL p ⟨0,(frs a).length,n⟩ (Wg R p c false φ i fs) r=(e,l,T)∧((e≠0∧Prg p q R (frs a++frs []) (frs a) y T)∨(e=0∧∃e2 l2 T2,syncL p l T=(e2,l2,T2)∧((e2≠0∧Prg p q R (frs a++frs [r]) (frs a) y T2)∨(e2=0∧l2=⟨0,(frs (a++[r])).length,n+1⟩∧∃φ' fs' st',T2=Wg R p (c+1) false φ' i fs'∧fs'[i]? = some ⟨frs (a++[r]),frs (a++[r]),st'⟩)))):=by
 have hi:i<fs.length:=(List.getElem?_eq_some_iff.1 hf).1
 have hn:frs a++frs []=frs a:=by simp [frs]
 have hs:frs (a++[r])=frs a++frm r:=by rw [frs_app,frs_one]
 by_cases h0:φ=0
 ·subst h0
  refine ⟨_,_,_,g_appendX ⟨0,(frs a).length,n⟩ rfl,.inl ⟨by decide,?_⟩⟩
  rw [hn]
  exact ⟨rfl,i,st,rfl,hf,.inl rfl⟩
 ·have ha:=g_append (R:=R) (p:=p) (c:=c) hf ⟨0,(frs a).length,n⟩ rfl h0 (s:=r) hR
  have hf':(fs.set i ⟨frs a++frm r,frs a,c+1⟩)[i]? = some ⟨frs a++frm r,frs a,c+1⟩:=List.getElem?_set_self hi
  refine ⟨_,_,_,ha,.inr ⟨rfl,?_⟩⟩
  by_cases h1:nf φ=0
  ·rw [h1]
   refine ⟨_,_,_,g_syncX _ rfl,.inl ⟨by decide,?_⟩⟩
   rw [frs_one]
   exact ⟨rfl,i,c+1,rfl,hf',.inl rfl⟩
  ·refine ⟨_,_,_,g_sync hf' _ rfl h1,.inr ⟨rfl,by rw [hs,List.length_append],nf (nf φ),_,c+1,rfl,?_⟩⟩
   rw [hs]
   exact List.getElem?_set_self (by rw [List.length_set];exact hi)
theorem Kx.bat {p q:Pth} {k gr:Nat} {s:Sx} {a:List (List Nat)} {b:KL (List Nat×Bool)} (h:Kx P p k s a) (hk:k<60) (hpq:¬p=q) (hn:b.length≤40) (hw:wtf lenP b≤3000) (hy:∀p∈b,byL p.1∧byL p.2.1) (hok:(recP b).2=0) (hPr:P (recE (lastD b))) (hPa:P (allE s.L)) :
  ∃e s',batX p q gr s b=(e,s')∧((e=0∧s'.L=doneP s.L (lastD b)∧∃a',Kx P p (k+1) s' a')∨(e≠0∧Cx P p q s.L (doneP s.L (lastD b)) s'.T)):=by
 obtain ⟨sl,sT,sL⟩:=s
 obtain ⟨⟨c,φ,i,fs,st,n,e1,e2,e3,e4,e5⟩,haw,hsm,hvs,hri,hlen⟩:=id h
 obtain ⟨a1,a2,a3,a4⟩:=h.all (by omega) hPa
 dsimp only at e1 e2 e3 e4 e5 haw hsm hvs hri hlen hPa a1 a2 a3 a4 ⊢
 subst e1 e2
 have gb:Gd b:=⟨by omega,hw,hy⟩
 have hrl:=gb.len
 have hrec:=rec_ok (rec_no hok)
 have htl:=gb.tell hok sL
 have hdn:=hsm.done (m:=lastD b) fun p hp=>⟨rec_no hok p (last_mem hp),hy p (last_mem hp)⟩
 have hll:=last_len b
 have hlw:=wtf_last lenP b
 have hsm':Sm (doneP sL (lastD b)) (40*(k+1)) (3000*(k+1)):=⟨by have:=hdn.len;omega,by have:=hdn.wt;omega,hdn.ok⟩
 have hvs':=hvs.done (m:=lastD b) fun p hp=>gb.pl p (last_mem hp)
 have hri':=riseP_done (lastD b) hri
 have hfa:=frs_one_len (allE sL)
 -- a record behind whatever there is
 have key:∀(a0:List (List Nat)) (c0 i0 st0 n0:Nat) (φ0:Int) (fs0:List Fil),fs0[i0]? = some ⟨frs a0,frs a0,st0⟩→Aw P (40*k) a0 sL→(frs a0).length≤3300*k→c0≤3+5*k+3→n0≤k+1 →
   ∃e s',(let w:=appendL p ⟨0,(frs a0).length,n0⟩ (Wg 1048576 p c0 false φ0 i0 fs0) (recP b).1
    if w.1≠0 then (w.1,(⟨w.2.1,w.2.2,sL⟩:Sx)) else
    let y:=syncL p w.2.1 w.2.2
    if y.1≠0 then (y.1,⟨y.2.1,y.2.2,sL⟩) else (0,⟨y.2.1,y.2.2,doneP sL (lastD b)⟩))=(e,s')∧((e=0∧s'.L=doneP sL (lastD b)∧∃a',Kx P p (k+1) s' a')∨(e≠0∧Cx P p q sL (doneP sL (lastD b)) s'.T)):=fun a0 c0 i0 st0 n0 φ0 fs0 k1 k2 k3 k4 k5=>by
  have k6:=k2.snoc htl hPr (M:=40*(k+1)) (by omega) hsm'.len
  have hf1:=frs_one_len (recE (lastD b))
  obtain ⟨e,l,T,g1,g2⟩:=g_put (p:=p) (q:=q) (c:=c0) (n:=n0) (φ:=φ0) (r:=(recP b).1) (y:=frs [allE sL]) (R:=1048576) k1 (by rw [hrec];dsimp only;omega)
  rw [hrec] at g1 g2 ⊢
  dsimp only at g1 g2 ⊢
  rw [g1]
  dsimp only
  rcases g2 with ⟨g2,g3⟩ | ⟨g2,e2,l2,T2,g3,g4⟩
  ·rw [if_pos g2]
   exact ⟨_,_,rfl,.inr ⟨g2,a0,[],40*(k+1),g3,k2.mono (by omega),.inl rfl,a4.mono (by omega),by omega,by omega,Nat.zero_le _,by omega⟩⟩
  ·rw [if_neg (fun hh=>hh g2),g3]
   dsimp only
   rcases g4 with ⟨g4,g5⟩ | ⟨g4,rfl,φ',fs',st',rfl,g5⟩
   ·rw [if_pos g4]
    exact ⟨_,_,rfl,.inr ⟨g4,a0,[recE (lastD b)],40*(k+1),g5,k2.mono (by omega),.inr ⟨_,rfl,k6⟩,a4.mono (by omega),by omega,by omega,by omega,by omega⟩⟩
   ·rw [if_neg (fun hh=>hh g4)]
    refine ⟨_,_,rfl,.inl ⟨rfl,rfl,a0++[recE (lastD b)],⟨c0+1,φ',i0,fs',st',n0+1,rfl,rfl,g5,by omega,by omega⟩,k6,hsm',hvs',hri',?_⟩⟩
    rw [frs_app,List.length_append]
    omega
 have eb:batX p q gr ⟨⟨0,(frs a).length,n⟩,Wg 1048576 p c false φ i fs,sL⟩ b=if (recP b).2≠0 then ((recP b).2,⟨⟨0,(frs a).length,n⟩,Wg 1048576 p c false φ i fs,sL⟩) else
   let a':=asdX p q gr ⟨⟨0,(frs a).length,n⟩,Wg 1048576 p c false φ i fs,sL⟩
   if a'.1≠0 then (a'.1,⟨a'.2.1,a'.2.2,sL⟩) else
   let w:=appendL p a'.2.1 a'.2.2 (recP b).1
   if w.1≠0 then (w.1,⟨w.2.1,w.2.2,sL⟩) else
   let y:=syncL p w.2.1 w.2.2
   if y.1≠0 then (y.1,⟨y.2.1,y.2.2,sL⟩) else (0,⟨y.2.1,y.2.2,doneP sL (lastD b)⟩):=rfl
 rw [eb,if_neg (fun hh=>hh hok)]
 unfold asdX
 dsimp only
 rw [a1]
 dsimp only
 by_cases hc:gr<(frs a).length∧(0:Nat)=0∧2*((allE sL).length+8)<(frs a).length
 ·rw [if_pos hc]
  obtain ⟨e,l',T',g1,g2,g3⟩:=g_aside (p:=p) (q:=q) (R:=1048576) (c:=c) (φ:=φ) e3 ⟨0,(frs a).length,n⟩ rfl hpq (s:=[allE sL]) (by omega)
  rw [g1]
  dsimp only
  rcases g3 with ⟨rfl,rfl,c',φ',st',rfl⟩ | ⟨g3,g4⟩
  ·rw [if_neg (fun hh=>hh rfl)]
   exact key [allE sL] c' fs.length st' 1 φ' _ (by simp) a4 (by omega) (by have:(Wg 1048576 p c' false φ' fs.length (fs++[⟨frs [allE sL],frs [allE sL],st'⟩])).clock=c':=rfl;omega) (by omega)
  ·rw [if_pos g3]
   refine ⟨_,_,rfl,.inr ⟨g3,a,[],40*(k+1),?_,haw.mono (by omega),.inl rfl,a4.mono (by omega),by omega,by omega,Nat.zero_le _,by omega⟩⟩
   have hnn:frs a++frs []=frs a:=by simp [frs]
   rw [hnn]
   exact g4
 ·rw [if_neg hc]
  dsimp only
  rw [if_neg (fun hh=>hh rfl)]
  exact key a c i st n φ fs e3 haw hlen (by omega) e5
theorem Cx.opens {p q:Pth} {L L':KL (List Nat)} {T:TT} (h:Cx P p q L L' T) (hpq:¬p=q) (hlt:lessA q p=true∧lessA p q=false) (hP:∀x,P x→x.length≤1048576) (keep:Int) (ps:List Int) :
  ∃s l T1 T2 l2 Lr,openT p q (crashT T keep ps)=(some (l,s),0,T1)∧openT p q T1=(some (l2,s),0,T2)∧(∀i,valS (crashT T keep ps).now p=some i→((crashT T keep ps).fil i).b.length≤500000)∧(∀i,valS T1.now p=some i→(T1.fil i).b.length≤500000)∧Aw P 4000 s Lr∧(Lr=L∨Lr=L')∧s.length≤1000000:=by
 obtain ⟨a,b,N,h1,h2,h3,h4,h5,h6,h7,h8⟩:=h.st
 have hb:∀x∈b,P x:=fun x hx=>by
  rcases h3 with rfl | ⟨r,rfl,h3⟩
  ·cases hx
  ·exact h3.p x (List.mem_append_right _ hx)
 obtain ⟨w,w1,w2⟩:=h1.crash hpq hlt keep ps
 have has:Has p q 1048576 a b [allE L] 1 (crashT T keep ps):=⟨w,w1,w2.elim .inl fun hm=>.inr ⟨by decide,hm⟩⟩
 obtain ⟨s,l,T1,T2,l2,o1,o2,z1,z2,hs⟩:=has.opens hpq (fun x hx=>hP x (h2.p x hx)) (fun x hx=>hP x (hb x hx)) (fun x hx=>hP x (h4.p x hx)) (by omega)
 have lb:b.length≤1:=by
  rcases h3 with rfl | ⟨r,rfl,_⟩
  ·exact Nat.zero_le _
  ·exact Nat.le_refl _
 have la:=frs_ge a
 have hsl:s.length≤1000000:=by
  rcases hs with rfl | ⟨_,k,hk,rfl⟩
  ·simp
  ·rw [List.length_append,List.length_take];omega
 refine ⟨s,l,T1,T2,l2,?_⟩
 rcases hs with rfl | ⟨_,k,hk,rfl⟩
 ·exact ⟨L,o1,o2,fun i hi=>by have:=z1 i hi;omega,fun i hi=>by have:=z2 i hi;omega,h4.mono (by omega),.inl rfl,hsl⟩
 ·by_cases hk0:b.take k=[]
  ·rw [hk0,List.append_nil] at o1 o2 hsl ⊢
   exact ⟨L,o1,o2,fun i hi=>by have:=z1 i hi;omega,fun i hi=>by have:=z2 i hi;omega,h2.mono (by omega),.inl rfl,hsl⟩
  ·rcases h3 with rfl | ⟨r,rfl,h3⟩
   ·simp at hk0
   ·obtain rfl:k=1:=by
     cases k with
     | zero=>simp at hk0
     | succ k=>simp at hk;omega
    exact ⟨L',o1,o2,fun i hi=>by have:=z1 i hi;omega,fun i hi=>by have:=z2 i hi;omega,h3.mono (by omega),.inr rfl,hsl⟩
theorem Bm.batX {n c:Nat} {p q:Pth} {gr:Nat} {s:Sx} {b:KL (List Nat×Bool)} (h:Bm n c s.T):Bm (n+6) (c+8) (batX p q gr s b).2.T:=by
 have ha:=Bm.asdX (p:=p) (q:=q) (gr:=gr) h
 unfold Rec.batX
 dsimp only
 split
 ·exact h.mono (by omega) (by omega)
 ·split
  ·exact ha.mono (by omega) (by omega)
  ·have hp:=ha.append p (Rec.asdX p q gr s).2.1 (recP b).1
   split
   ·exact hp.mono (by omega) (by omega)
   ·have hy:=hp.syncL p (appendL p (Rec.asdX p q gr s).2.1 (Rec.asdX p q gr s).2.2 (recP b).1).2.1
    split
    ·exact hy.mono (by omega) (by omega)
    ·exact hy.mono (by omega) (by omega)
theorem wg_bm {R:Int} {p:Pth} {c i:Nat} {off:Bool} {φ:Int} {fs:List Fil}:Bm 1 c (Wg R p c off φ i fs):=⟨Nat.le_refl _,Nat.le_refl _,Nat.le_refl _⟩
end
end Rec
end Go.Abs
end