/- Texts joined: MJh, MLa, MJk, MLb. -/
import Derived.Test.YtihigekgnnoejaaGreatDoorH8
import Derived.Test.YtihigekgnnoejaaGreatDoorH6
import Derived.Test.YtihigekgnnoejaaGreatDoorJ0
set_option maxRecDepth 100000
set_option linter.unusedVariables false
set_option linter.unusedSimpArgs false
set_option maxHeartbeats 64000000
section
namespace Go.Proofs.YtihigekgnnoejaaGreatDoor.mdl
open Go Go.Abs Go.Proofs
structure Nw (S:Sums):Prop extends Nv S where
 nw9:∀f args h,f∈[23,7,12]→S f args h=none
def dm:List (Int×AV):=[(2,.func (.func 43) [] []),(3,.func (.func 44) [] []),(6,.func (.func 45) [] []),(4,.func (.func 46) [] []),(8,.func (.func 47) [] [])]
section
variable {S : Sums}
theorem doesC (hS:Nw S) {h:AH}:RnC Tryz.prog S 23 [] h fun v h'=>v=.map h.nx∧Fr h h'∧h.nx<h'.nx∧∃bs ck,h'.get h.nx=some (.map (em dm) bs ck):=by
 refine RnC.enter' Tryz.f23 _ 3 [.tmp 0] (hS.nw9 _ _ _ (by simp)) bd23 Tryz.func23 rfl rfl rfl ?_
 simp -dsimp only [go_sem]
 have f2:Fr h (h.new (.map [] [] 0)):=Fr.new _ _
 have m2:∃bs ck,(h.new (.map [] [] 0)).get h.nx=some (.map (em []) bs ck):=⟨[],0,AH.get_new_eq rfl⟩
 have n2:(h.new (.map [] [] 0)).nx=h.nx+1:=rfl
 generalize h.new (.map [] [] 0)=g2 at f2 m2 n2 ⊢
 have hu:=Tryz.underlying70
 have hi3:=Tryz.underlying3
 obtain ⟨g3,s3,e3,o3,m3⟩:=muE hu hi3 m2 2 (.func (.func 43) [] []) (by simp)
 obtain ⟨g4,s4,e4,o4,m4⟩:=muE hu hi3 m3 3 (.func (.func 44) [] []) (by simp)
 obtain ⟨g5,s5,e5,o5,m5⟩:=muE hu hi3 m4 6 (.func (.func 45) [] []) (by simp)
 obtain ⟨g6,s6,e6,o6,m6⟩:=muE hu hi3 m5 4 (.func (.func 46) [] []) (by simp)
 obtain ⟨g7,s7,e7,o7,m7⟩:=muE hu hi3 m6 8 (.func (.func 47) [] []) (by simp)
 simp -dsimp only [go_sem,s3,s4,s5,s6,s7]
 exact ⟨trivial,⟨by omega,fun j hj=>(o7 j (by omega)).trans ((o6 j (by omega)).trans ((o5 j (by omega)).trans ((o4 j (by omega)).trans ((o3 j (by omega)).trans (f2.get j hj)))))⟩,by omega,m7⟩
end
/-! ### Keys -/
theorem cmpI_lt {a b:Int}:cmpI a b<0↔a<b:=by
 unfold cmpI;split
 ·simp [*]
 ·split <;> omega
theorem cmpI_eq {a:Int}:cmpI a a=0:=by simp [cmpI]
theorem cmpS_lt {a b:List Nat}:cmpS a b<0↔lessA a b=true:=by
 unfold cmpS;split
 ·simp [*]
 ·split <;> simp [*]
theorem cmpS_eq {a:List Nat}:cmpS a a=0:=by simp [cmpS,lessA_irr]
theorem or3_lt {a b c:Int}:or3 a b c<0↔a<0∨(a=0∧(b<0∨(b=0∧c<0))):=by
 unfold or3;split
 ·omega
 ·split <;> omega
theorem cmpK_lt {a b:Ky}:cmpK a b<0↔a.1<b.1∨(a.1=b.1∧(lessA a.2.1 b.2.1=true∨(a.2.1=b.2.1∧lessA a.2.2 b.2.2=true))):=by
 unfold cmpK
 rw [or3_lt,cmpI_lt,cmpS_lt,cmpS_lt]
 have h1:cmpI a.1 b.1=0↔a.1=b.1:=⟨cmpI0,fun h=>by rw [h,cmpI_eq]⟩
 have h2:cmpS a.2.1 b.2.1=0↔a.2.1=b.2.1:=⟨cmpS0,fun h=>by rw [h,cmpS_eq]⟩
 rw [h1,h2]
theorem cmpK_tr {a b c:Ky} (h1:cmpK a b<0) (h2:cmpK b c<0):cmpK a c<0:=by
 rw [cmpK_lt] at *
 rcases h1 with h1 | ⟨h1,h1'⟩ <;> rcases h2 with h2 | ⟨h2,h2'⟩
 ·exact .inl (by omega)
 ·exact .inl (by omega)
 ·exact .inl (by omega)
 ·refine .inr ⟨by omega,?_⟩
  rcases h1' with h3 | ⟨h3,h3'⟩ <;> rcases h2' with h4 | ⟨h4,h4'⟩
  ·exact .inl (lessA_tr _ _ _ h3 h4)
  ·exact .inl (by rw [←h4];exact h3)
  ·exact .inl (by rw [h3];exact h4)
  ·exact .inr ⟨h3.trans h4,lessA_tr _ _ _ h3' h4'⟩
theorem cmpK_eq {a:Ky}:cmpK a a=0:=by simp [cmpK,or3,cmpI_eq,cmpS_eq]
theorem cmpK_tot {a b:Ky} (h:¬cmpK a b<0) (hn:a≠b):cmpK b a<0:=by
 rw [cmpK_lt] at *
 by_cases h1:b.1<a.1
 ·exact .inl h1
 ·have h2:a.1=b.1:=by omega
  refine .inr ⟨h2.symm,?_⟩
  by_cases h3:b.2.1=a.2.1
  ·refine .inr ⟨h3,?_⟩
   refine lessA_tot _ _ (fun h4=>hn (Prod.ext h2 (Prod.ext h3.symm h4))) ?_
   cases h5:lessA a.2.2 b.2.2
   ·rfl
   ·exact absurd (.inr ⟨h2,.inr ⟨h3.symm,h5⟩⟩) h
  ·refine .inl (lessA_tot _ _ (fun h4=>h3 h4.symm) ?_)
   cases h5:lessA a.2.1 b.2.1
   ·rfl
   ·exact absurd (.inr ⟨h2,.inl h5⟩) h
theorem cmpK_irr {a:Ky}:¬cmpK a a<0:=by rw [cmpK_eq];decide
/-! ### A list by rising keys -/
def Srt (l:List Hd):Prop:=(l.map Hd.key).Pairwise fun a b=>cmpK a b<0
theorem Srt.at {l:List Hd} (hs:Srt l) {p q:Nat} {x y:Hd} (hx:l[p]? = some x) (hy:l[q]? = some y) (h:p<q):cmpK x.key y.key<0:=by
 have h1:=List.pairwise_iff_getElem.1 hs
 obtain ⟨hp,ex⟩:=List.getElem?_eq_some_iff.1 hx
 obtain ⟨hq,ey⟩:=List.getElem?_eq_some_iff.1 hy
 have:=h1 p q (by simpa using hp) (by simpa using hq) h
 simpa [ex,ey] using this
theorem bsF_spec (c:Nat→Int):∀(f i j:Nat),j-i≤f→i≤j→(∀p q,p<q→q<j→c q<0→c p<0)→(∀p,i≤p→p<bsF c f i j→c p<0)∧(∀p,bsF c f i j≤p→p<j→0≤c p)
 | 0,i,j,h,hij,hm=>by
  have:i=j:=by omega
  subst this
  exact ⟨fun p h1 h2=>by simp only [bsF] at h2;omega,fun p h1 h2=>by simp only [bsF] at h1;omega⟩
 | f+1,i,j,h,hij,hm=>by
  unfold bsF
  split
  ·rename_i hlt
   split
   ·rename_i hc
    obtain ⟨h1,h2⟩:=bsF_spec c f ((i+j)/2+1) j (by omega) (by omega) hm
    refine ⟨fun p h3 h4=>?_,h2⟩
    by_cases h5:(i+j)/2+1≤p
    ·exact h1 p h5 h4
    ·by_cases h6:p=(i+j)/2
     ·rw [h6];exact hc
     ·exact hm p _ (by omega) (by omega) hc
   ·rename_i hc
    obtain ⟨h1,h2⟩:=bsF_spec c f i ((i+j)/2) (by omega) (by omega) (fun p q h3 h4=>hm p q h3 (by omega))
    refine ⟨h1,fun p h3 h4=>?_⟩
    by_cases h5:p<(i+j)/2
    ·exact h2 p h3 h5
    ·by_cases h6:p=(i+j)/2
     ·rw [h6];omega
     ·have:=hm ((i+j)/2) p (by omega) h4
      omega
  ·exact ⟨fun p h1 h2=>by omega,fun p h1 h2=>by omega⟩
theorem findK_spec {l:List Hd} (hs:Srt l) (k:Ky):(∀p x,l[p]? = some x→p<(findK l k).1→cmpK x.key k<0)∧(∀p x,l[p]? = some x→(findK l k).1≤p→0≤cmpK x.key k):=by
 have hat:∀p x,l[p]? = some x→atK l k p=cmpK x.key k:=fun p x hx=>by unfold atK;rw [hx]
 obtain ⟨h1,h2⟩:=bsF_spec (atK l k) l.length 0 l.length (by omega) (by omega) fun p q hpq hq hc=>by
  obtain ⟨y,hy⟩:∃y,l[q]? = some y:=⟨_,List.getElem?_eq_getElem hq⟩
  obtain ⟨x,hx⟩:∃x,l[p]? = some x:=⟨_,List.getElem?_eq_getElem (by omega)⟩
  rw [hat _ _ hy] at hc
  rw [hat _ _ hx]
  exact cmpK_tr (hs.at hx hy hpq) hc
 exact ⟨fun p x hx hp=>by rw [←hat _ _ hx];exact h1 p (Nat.zero_le _) hp,fun p x hx hp=>by rw [←hat _ _ hx];exact h2 p hp (List.getElem?_eq_some_iff.1 hx).1⟩
theorem findK_idx {l:List Hd} (hs:Srt l) {k:Ky} {p:Nat} {x:Hd} (hx:l[p]? = some x) (hk:x.key=k):(findK l k).1=p∧(findK l k).2=true:=by
 obtain ⟨h1,h2⟩:=findK_spec hs k
 have e:(findK l k).1=p:=by
  by_cases h3:p<(findK l k).1
  ·have:=h1 p x hx h3
   rw [hk] at this
   exact absurd this cmpK_irr
  ·by_cases h4:(findK l k).1=p
   ·exact h4
   ·have hp:=(List.getElem?_eq_some_iff.1 hx).1
    obtain ⟨y,hy⟩:∃y,l[(findK l k).1]? = some y:=⟨_,List.getElem?_eq_getElem (by omega)⟩
    have:=h2 _ y hy (Nat.le_refl _)
    have h5:=hs.at hy hx (by omega)
    rw [hk] at h5
    omega
 refine ⟨e,?_⟩
 have hp:=(List.getElem?_eq_some_iff.1 hx).1
 have e':bsF (atK l k) l.length 0 l.length=p:=e
 simp only [findK,e',Bool.and_eq_true,decide_eq_true_eq]
 refine ⟨hp,?_⟩
 unfold atK
 rw [hx,←hk]
 exact cmpK_eq
theorem findK_no {l:List Hd} (hs:Srt l) {k:Ky} (h:(findK l k).2=false) {x:Hd} (hx:x∈l):x.key≠k:=fun hk=>by
 obtain ⟨p,hp⟩:=List.getElem?_of_mem hx
 have:=(findK_idx hs hp hk).2
 rw [h] at this;cases this
theorem pastF_is {l:List Hd} (hs:Srt l) {x:Hd} (hx:x∈l):pastF l x.key=x.past.drop x.start:=by
 obtain ⟨p,hp⟩:=List.getElem?_of_mem hx
 obtain ⟨e1,e2⟩:=findK_idx hs hp rfl
 unfold pastF
 rw [e1,hp]
 simp [e2]
theorem pastF_no {l:List Hd} {k:Ky} (h:∀x∈l,x.key≠k):pastF l k=[]:=by
 cases h1:(findK l k).2
 ·unfold pastF
  cases l[(findK l k).1]? <;> simp [h1]
 ·obtain ⟨x,hx,hk⟩:=findK_is h1
  exact absurd hk (h x (List.mem_of_getElem? hx))
theorem nowX_key (x:Hd) (r:Rc):(nowX x r).key=x.key:=rfl
theorem map_modify {α β:Type} (g:α→β) (f:α→α) (hf:∀a,g (f a)=g a) (l:List α) (i:Nat):(l.modify i f).map g=l.map g:=by
 apply List.ext_getElem?
 intro j
 simp only [List.getElem?_map,List.getElem?_modify]
 cases l[j]? with
 | none=>rfl
 | some a=>by_cases h:i=j <;> simp [h,hf]
theorem roomF_srt {l:List Hd} (hs:Srt l) (k:Ky):Srt (roomF l k):=by
 unfold roomF
 split
 ·exact hs
 ·rename_i hf
  have hf:(findK l k).2=false:=by simpa using hf
  obtain ⟨h1,h2⟩:=findK_spec hs k
  have hs':=List.pairwise_append.1 (show ((l.map Hd.key).take (findK l k).1++(l.map Hd.key).drop (findK l k).1).Pairwise (fun a b=>cmpK a b<0) by rw [List.take_append_drop];exact hs)
  obtain ⟨p1,p2,p3⟩:=hs'
  unfold Srt
  rw [List.map_append,List.map_cons,List.map_take,List.map_drop]
  refine List.pairwise_append.2 ⟨p1,List.pairwise_cons.2 ⟨fun y hy=>?_,p2⟩,fun x hx y hy=>?_⟩
  ·rw [←List.map_drop] at hy
   obtain ⟨z,hz,rfl⟩:=List.mem_map.1 hy
   obtain ⟨q,hq⟩:=List.getElem?_of_mem hz
   rw [List.getElem?_drop] at hq
   have h3:=h2 _ z hq (by omega)
   have h4:=findK_no hs hf (List.mem_of_getElem? hq)
   exact cmpK_tot (by show ¬cmpK z.key k<0;omega) h4
  ·rcases List.mem_cons.1 hy with rfl | hy
   ·rw [←List.map_take] at hx
    obtain ⟨z,hz,rfl⟩:=List.mem_map.1 hx
    obtain ⟨q,hq⟩:=List.getElem?_of_mem hz
    rw [List.getElem?_take] at hq
    split at hq
    ·exact h1 _ z hq (by assumption)
    ·cases hq
   ·exact p3 x hx y hy
theorem setF_srt {l:List Hd} (hs:Srt l) (k:Ky) (r:Rc):Srt (setF l k r):=by
 have:=roomF_srt hs k
 unfold Srt setF at *
 rw [map_modify Hd.key _ (fun a=>nowX_key a r)]
 exact this
theorem roomF_at {l:List Hd} (k:Ky):∃x,(roomF l k)[(findK l k).1]? = some x∧x.key=k∧(x∈l∨x=newH k):=by
 unfold roomF
 cases h:(findK l k).2
 ·refine ⟨newH k,?_,rfl,.inr rfl⟩
  have:=findK_le l k
  rw [if_neg (by simp),List.getElem?_append_right (by rw [List.length_take];omega),List.length_take,Nat.min_eq_left this,Nat.sub_self]
  rfl
 ·obtain ⟨x,hx,hk⟩:=findK_is h
  exact ⟨x,by rw [if_pos rfl];exact hx,hk,.inl (List.mem_of_getElem? hx)⟩
theorem roomF_mem {l:List Hd} {k:Ky} {y:Hd}:y∈roomF l k→y∈l∨y=newH k:=by
 unfold roomF
 split
 ·exact .inl
 ·intro h
  rcases List.mem_append.1 h with h | h
  ·exact .inl (List.mem_of_mem_take h)
  ·rcases List.mem_cons.1 h with h | h
   ·exact .inr h
   ·exact .inl (List.mem_of_mem_drop h)
theorem mem_roomF {l:List Hd} {k:Ky} {y:Hd} (h:y∈l):y∈roomF l k:=by
 unfold roomF
 split
 ·exact h
 ·rw [←List.take_append_drop (findK l k).1 l] at h
  rcases List.mem_append.1 h with h | h
  ·exact List.mem_append.2 (.inl h)
  ·exact List.mem_append.2 (.inr (List.mem_cons_of_mem _ h))
theorem setF_mem {l:List Hd} {k:Ky} {r:Rc} {y:Hd} (hy:y∈setF l k r):(∃x,(x∈l∨x=newH k)∧x.key=k∧y=nowX x r)∨y∈l∨y=newH k:=by
 obtain ⟨j,hj⟩:=List.getElem?_of_mem hy
 unfold setF at hj
 rw [List.getElem?_modify] at hj
 obtain ⟨x,h1,h2,h3⟩:=roomF_at (l:=l) k
 by_cases h:(findK l k).1=j
 ·subst h
  rw [h1] at hj
  simp only [if_true,Option.map_eq_map,Option.map_some,Option.some.injEq] at hj
  exact .inl ⟨x,h3,h2,hj.symm⟩
 ·simp only [if_neg h] at hj
  cases hz:(roomF l k)[j]? with
  | none=>rw [hz] at hj;cases hj
  | some z =>
   rw [hz] at hj
   have:z=y:=by simpa using hj
   subst this
   exact .inr (roomF_mem (List.mem_of_getElem? hz))
theorem mem_setF {l:List Hd} {k:Ky} {r:Rc} {y:Hd} (hy:y∈l) (hk:y.key≠k):y∈setF l k r:=by
 obtain ⟨j,hj⟩:=List.getElem?_of_mem (mem_roomF (k:=k) hy)
 obtain ⟨x,h1,h2,h3⟩:=roomF_at (l:=l) k
 have h:(findK l k).1≠j:=fun h=>by
  rw [h,hj] at h1
  cases h1
  exact hk h2
 refine List.mem_of_getElem? (i:=j) ?_
 unfold setF
 rw [List.getElem?_modify,hj]
 simp [h]
theorem setF_len (l:List Hd) (k:Ky) (r:Rc):l.length≤(setF l k r).length∧(setF l k r).length≤l.length+1:=by
 unfold setF roomF
 rw [List.length_modify]
 have:=findK_le l k
 split
 ·omega
 ·simp only [List.length_append,List.length_take,List.length_cons,List.length_drop]
  omega
theorem pastF_set {l:List Hd} (hs:Srt l) {c k:Ky} (hck:c≠k) (cp:Rc):pastF (setF l c cp) k=pastF l k:=by
 by_cases h:∃x∈l,x.key=k
 ·obtain ⟨x,hx,rfl⟩:=h
  rw [pastF_is hs hx,pastF_is (setF_srt hs c cp) (mem_setF hx fun h=>hck h.symm)]
 ·rw [pastF_no fun x hx hk=>h ⟨x,hx,hk⟩,pastF_no fun y hy hk=>?_]
  rcases setF_mem hy with ⟨x,h1,h2,rfl⟩ | h1 | rfl
  ·exact hck (h2.symm.trans hk)
  ·exact h ⟨y,h1,hk⟩
  ·exact hck hk
theorem set_same {α:Type} {l:List α} {i:Nat} {a:α} (h:l[i]? = some a):l.set i a=l:=by
 apply List.ext_getElem?
 intro j
 rw [List.getElem?_set]
 by_cases hj:i=j
 ·subst hj
  rw [h,if_pos rfl,if_pos (List.getElem?_eq_some_iff.1 h).1]
 ·rw [if_neg hj]
/-! ### What stays true -/
structure HOK (n:Nat) (x:Hd):Prop where
 pl:x.past.length≤n
 st:x.start≤x.past.length
 la:x.now.path≠[]→x.past.getLast? = some x.now
 pp:∀p∈x.past,p.path=x.path
 gr:x.now.path≠[]→x.now.gone=false→∀i p,x.past[i]? = some p→x.start≤i→i+2=x.past.length→cmpV x.now.vec p.vec≠2
def totP (l:List Hd):Nat:=(l.map fun x=>x.past.length).sum
theorem totP_mod (f:Hd→Hd) (hf:∀x,(f x).past.length=x.past.length+1):∀(l:List Hd) (i:Nat),totP (l.modify i f)≤totP l+1
 | [],i=>by simp [totP]
 | x::l,0=>by
  have:=hf x
  simp only [totP,List.modify_zero_cons,List.map_cons,List.sum_cons]
  omega
 | x::l,i+1=>by
  have:=totP_mod f hf l i
  simp only [totP,List.modify_succ_cons,List.map_cons,List.sum_cons] at *
  omega
theorem totP_map (f:Hd→Hd) (hf:∀x,(f x).past=x.past) (l:List Hd):totP (l.map f)=totP l:=by
 unfold totP
 rw [List.map_map]
 congr 1
 refine List.map_congr_left fun x _=>?_
 show (f x).past.length=_
 rw [hf]
theorem totP_room (l:List Hd) (k:Ky):totP (roomF l k)=totP l:=by
 unfold roomF
 split
 ·rfl
 ·unfold totP
  have e:((l.take (findK l k).1++l.drop (findK l k).1).map fun x=>x.past.length).sum=(l.map fun x=>x.past.length).sum:=by rw [List.take_append_drop]
  rw [List.map_append,List.sum_append] at e
  rw [List.map_append,List.sum_append,List.map_cons,List.sum_cons,←e]
  show _+(0+_)=_
  rw [Nat.zero_add]
theorem totP_set (l:List Hd) (k:Ky) (r:Rc):totP (setF l k r)≤totP l+1:=by
 have:=totP_mod (fun x=>nowX x r) (fun x=>by simp [nowX]) (roomF l k) (findK l k).1
 rw [totP_room] at this
 exact this
theorem totP_clr {l:List Hd} {i:Nat} {x:Hd} (hx:l[i]? = some x):totP (l.set i { x with now:=rc0 })=totP l:=by
 unfold totP
 rw [List.map_set,show ({ x with now:=rc0 }:Hd).past.length=x.past.length from rfl,set_same (by rw [List.getElem?_map,hx];rfl)]
structure InvX (m n:Nat) (l:List Hd):Prop where
 lo:m≤l.length
 hi:l.length≤n
 tot:totP l≤n
 srt:Srt l
 ok:∀x∈l,HOK n x
theorem HOK.mono {n m:Nat} {x:Hd} (h:HOK n x) (hm:n≤m):HOK m x:=⟨Nat.le_trans h.pl hm,h.st,h.la,h.pp,h.gr⟩
theorem newH_ok (n:Nat) (k:Ky):HOK n (newH k):=⟨Nat.zero_le _,Nat.le_refl _,fun h=>absurd rfl h,fun p hp=>(by cases hp),fun h=>absurd rfl h⟩
theorem srt_map {l:List Hd} (hs:Srt l) (f:Hd→Hd) (hf:∀x,(f x).key=x.key):Srt (l.map f):=by
 unfold Srt at *
 rw [List.map_map,show Hd.key ∘ f=Hd.key from funext hf]
 exact hs
theorem invX (m:Nat):InvOK (InvX m) where
 mono:=fun n k l h hk=>⟨h.lo,Nat.le_trans h.hi hk,Nat.le_trans h.tot hk,h.srt,fun x hx=>(h.ok x hx).mono hk⟩
 gone:=fun n l d f h=>by
  refine ⟨by unfold goneF;rw [List.length_map];exact h.lo,by unfold goneF;rw [List.length_map];exact h.hi,by unfold goneF;rw [totP_map _ fun x=>(by split <;> rfl)];exact h.tot,srt_map h.srt _ fun x=>(by split <;> rfl),fun y hy=>?_⟩
  obtain ⟨x,hx,rfl⟩:=List.mem_map.1 hy
  have h1:=h.ok x hx
  split
  ·exact ⟨h1.pl,Nat.le_refl _,fun hh=>absurd rfl hh,h1.pp,fun hh=>absurd rfl hh⟩
  ·exact h1
 forg:=fun n l f h=>by
  refine ⟨by unfold forF;rw [List.length_map];exact h.lo,by unfold forF;rw [List.length_map];exact h.hi,by unfold forF;rw [totP_map _ fun x=>(by split <;> rfl)];exact h.tot,srt_map h.srt _ fun x=>(by split <;> rfl),fun y hy=>?_⟩
  obtain ⟨x,hx,rfl⟩:=List.mem_map.1 hy
  have h1:=h.ok x hx
  split
  ·refine ⟨h1.pl,?_,h1.la,h1.pp,fun hh hg i p hi hst he=>?_⟩
   ·show (if x.now.path=[] then x.past.length else x.past.length-1)≤x.past.length
    split <;> omega
   ·have hh':¬x.now.path=[]:=hh
    have hst':(if x.now.path=[] then x.past.length else x.past.length-1)≤i:=hst
    have he':i+2=x.past.length:=he
    rw [if_neg hh'] at hst'
    omega
  ·exact h1
 pos:=fun n l h x hx hp=>by
  have h1:=(h.ok x hx).la hp
  cases hq:x.past with
  | nil=>rw [hq] at h1;cases h1
  | cons a b=>simp
 st:=fun n l h x hx=>(h.ok x hx).st
 bd:=fun n l h=>⟨h.hi,fun x hx=>(h.ok x hx).pl⟩
 set:=fun n l k r h hr hb=>by
  have hl:=setF_len l k r
  refine ⟨Nat.le_trans h.lo hl.1,Nat.le_trans hl.2 (Nat.succ_le_succ h.hi),Nat.le_trans (totP_set l k r) (Nat.succ_le_succ h.tot),setF_srt h.srt k r,fun y hy=>?_⟩
  rcases setF_mem hy with ⟨x,h1,h2,rfl⟩ | h1 | rfl
  ·have hx:HOK n x:=by
    rcases h1 with h1 | rfl
    ·exact h.ok x h1
    ·exact newH_ok n k
   have hpa:x.past=[]∨pastF l k=x.past.drop x.start:=by
    rcases h1 with h1 | rfl
    ·exact .inr (by rw [←h2];exact pastF_is h.srt h1)
    ·exact .inl rfl
   refine ⟨?_,?_,fun _=>?_,fun p hp=>?_,fun hh hg i p hi hst he=>?_⟩
   ·show (x.past++[r]).length≤n+1
    have:=hx.pl
    simp;omega
   ·show x.start≤(x.past++[r]).length
    have:=hx.st
    simp;omega
   ·show (x.past++[r]).getLast? = some r
    simp
   ·have hp':p∈x.past++[r]:=hp
    show p.path=x.path
    rcases List.mem_append.1 hp' with hp' | hp'
    ·exact hx.pp p hp'
    ·simp only [List.mem_singleton] at hp'
     subst hp'
     rw [hr,←h2];rfl
   ·have he':i+2=(x.past++[r]).length:=he
    have hi':(x.past++[r])[i]? = some p:=hi
    have hst':x.start≤i:=hst
    have hg':r.gone=false:=hg
    show cmpV r.vec p.vec≠2
    simp only [List.length_append,List.length_cons,List.length_nil] at he'
    rw [List.getElem?_append_left (by omega)] at hi'
    rcases hpa with hpa | hpa
    ·rw [hpa] at hi';cases hi'
    ·intro hc
     unfold backF at hb
     rw [hg',hpa] at hb
     simp only [Bool.not_false,Bool.true_and,List.any_eq_false,Bool.or_eq_true,decide_eq_true_eq,not_or] at hb
     have hm:p∈x.past.drop x.start:=by
      refine List.mem_of_getElem? (i:=i-x.start) ?_
      rw [List.getElem?_drop,show x.start+(i-x.start)=i by omega]
      exact hi'
     exact (hb p hm).1 hc
  ·exact (h.ok y h1).mono (Nat.le_succ n)
  ·exact newH_ok _ _
 set2:=fun n l c k cp r h hck hb=>by
  unfold backF at *
  rw [pastF_set h.srt hck]
  exact hb
 clr:=fun n l i x h hx=>by
  refine ⟨by rw [List.length_set];exact h.lo,by rw [List.length_set];exact h.hi,by rw [totP_clr hx];exact h.tot,?_,fun y hy=>?_⟩
  ·have hs:=h.srt
   unfold Srt at *
   rw [List.map_set,show ({ x with now:=rc0 }:Hd).key=x.key from rfl,set_same (by rw [List.getElem?_map,hx];rfl)]
   exact hs
  ·rcases List.mem_or_eq_of_mem_set hy with hy | rfl
   ·exact h.ok y hy
   ·have h1:=h.ok x (List.mem_of_getElem? hx)
    exact ⟨h1.pl,h1.st,fun hh=>absurd rfl hh,h1.pp,fun hh=>absurd rfl hh⟩
end Go.Proofs.YtihigekgnnoejaaGreatDoor.mdl
end
section
namespace Go.Abs
open Go
theorem RnC.and {P:Program} {S:Sums} {f:FuncId} {args:List AV} {h:AH} {Q1 Q2:AV→AH→Prop} (h1:RnC P S f args h Q1) (h2:RnC P S f args h Q2):RnC P S f args h fun v h'=>Q1 v h'∧Q2 v h':=by
 obtain ⟨k1,v1,g1,e1,q1⟩:=h1
 obtain ⟨k2,v2,g2,e2,q2⟩:=h2
 have e1':=(evN_mono (P:=P) (S:=S) (Nat.le_max_left k1 k2)).call _ _ _ _ e1
 have e2':=(evN_mono (P:=P) (S:=S) (Nat.le_max_right k1 k2)).call _ _ _ _ e2
 rw [e1'] at e2'
 cases e2'
 exact ⟨_,_,_,e1',q1,q2⟩
end Go.Abs
namespace Go.Proofs.YtihigekgnnoejaaGreatDoor.mdl
open Go Go.Abs Go.Proofs
section
variable {S : Sums}
theorem took0C (hS:Nf S) {n0:Nat} {K:Nat→Nat} {h:AH} {p:Nat} {l:List Hd} {s:List Mt} {cs:List AV} {x:Se} (hz:Zs n0 K h p l s) (hx:Sa K h cs x) (hv0:versF l x.dfolder x.rc.path=[]):RnC Tryz.prog S 58 [.ptr p 0,.agg cs] h fun v h'=>v=.int .i64 2∧Fr h h':=by
 have hx0:=hx
 obtain ⟨v1,d1,v2,d2,rw',rv,rfl,h1,h2,h3,h4,h5,h6,h7,h8⟩:=hx
 have o1:=h1.ln.2.2.2
 have o2:=h2.ln.2.2
 have o4:=h4.ln.2.2.2
 have o5:=h5.ln.2.2
 have o7:=h7.ln.2.2
 have o8:=h8.ln.2.2
 have p1:=oneM o1
 have p2:=oneM o2
 have p4:=oneM o4
 have p5:=oneM o5
 have p7:=oneM o7
 have p8:=oneM o8
 have hrc:=Sa.rc (x:=x) h1 h2 h3
 have hrs:=hrc.sv
 have hxs:=hx0.sv
 refine RnC.enter' Tryz.f58 _ 58 [.tmp 4] (hS.nb _ _ _ (by simp)) bd58 Tryz.func58 rfl rfl rfl ?_
 simp -dsimp (disch:=repeat first|rw [nxn]|rw [nxp]|omega) only [go_sem,o1,o2,o4,o5,o7,o8,p1,p2,p4,p5,p7,p8]
 generalize hC:([.int .i64 x.kind,.int .i64 x.dev,.int .i64 x.peer,.int .i64 x.num,.str x.folder,.str x.path,.int .i64 x.dkind,.str x.dfolder,.str x.dpath,.str x.rc.path,v1,.int .i64 x.rc.own,.bool x.rc.gone,.int .i64 x.rc.size,.int .i64 x.rc.len,d1,.str x.copy,.str x.cp.path,v2,.int .i64 x.cp.own,.bool x.cp.gone,.int .i64 x.cp.size,.int .i64 x.cp.len,d2,.int .i64 x.ckind,.str x.cfolder,.int .i64 x.cdev,.int .i64 x.mt.own,rw',rv]:List AV)=C at *
 have c30:C.take 30=C:=by rw [←hC];rfl
 have cl:C.length=30:=by rw [←hC];rfl
 have c9:(C.drop 9).take 7=[.str x.rc.path,v1,.int .i64 x.rc.own,.bool x.rc.gone,.int .i64 x.rc.size,.int .i64 x.rc.len,d1]:=by rw [←hC];rfl
 have cl30:30≤C.length:=by omega
 have cl16:16≤C.length:=by omega
 have f1:Fr h (h.new (.cells C true false)):=Fr.new _ _
 have q1:(h.new (.cells C true false)).get h.nx=some (.cells C true false):=AH.get_new_eq rfl
 have n1:(h.new (.cells C true false)).nx=h.nx+1:=rfl
 generalize h.new (.cells C true false)=g1 at f1 q1 n1 ⊢
 refine syDraw.keepN 9 (fun j=>j=h.nx) (by kernel_rfl) (by kernel_rfl) rfl ?_
 have fA:Fr g1 { tr:=g1.tr,nx:=g1.nx+9 }:=(Fr.refl g1).more _ (by omega)
 simp -dsimp (disch:=repeat first|rw [nxn]|rw [nxp]|omega) only [go_sem,q1,c30,cl30,true_and,true_or,or_true,implies_true,svi,svb,svs,svp,hxs]
 refine callK_of (atC hS ((hx0.fr f1).fr fA)) ?_
 rintro v g2 ⟨rfl,f2⟩
 have n2:g1.nx+9≤g2.nx:=f2.nx
 refine ⟨fun j hj=>f2.get j (by show j<g1.nx+9;omega),?_⟩
 have f12:=fA.trans f2
 have q2:=(f12.get _ (by omega)).trans q1
 simp -dsimp (disch:=repeat first|rw [nxn]|rw [nxp]|omega) only [go_sem,q2,c9,cl16,o1,o2,p1,p2,true_and,true_or,or_true,implies_true,svi,svb,svs,svp,hrs]
 refine ⟨fun j hj=>(AH.get_put_ne (by omega)).trans ((AH.get_put_ne (by omega)).trans (AH.get_put_ne (by omega))),fun j hj=>AH.get_put_ne (by omega),?_⟩
 generalize hg3:((((g2.put (g1.nx+5) (.cells [.int .i64 0,.str [],.str []] true false)).put (g1.nx+6) (.cells [.str [],.nilsl,.int .i64 0,.bool false,.int .i64 0,.int .i64 0,.nilsl] true false)).put (g1.nx+5) (.cells [.int .i64 x.dev,.str x.dfolder,.str x.rc.path] true false)).put (g1.nx+6) (.cells [.str x.rc.path,v1,.int .i64 x.rc.own,.bool x.rc.gone,.int .i64 x.rc.size,.int .i64 x.rc.len,d1] true false))=g3
 have n3:g3.nx=g2.nx:=by rw [←hg3];rfl
 have f13:Fr g1 g3:=by rw [←hg3];exact (((f12.put _ (by omega)).put _ (by omega)).put _ (by omega)).put _ (by omega)
 have q5:g3.get (g1.nx+5)=some (.cells [.int .i64 x.dev,.str x.dfolder,.str x.rc.path] true false):=by rw [←hg3];exact (AH.get_put_ne (by omega)).trans (AH.get_put_eq rfl)
 have q6:g3.get (g1.nx+6)=some (.cells [.str x.rc.path,v1,.int .i64 x.rc.own,.bool x.rc.gone,.int .i64 x.rc.size,.int .i64 x.rc.len,d1] true false):=by rw [←hg3];exact AH.get_put_eq rfl
 clear hg3
 have q3:=(f13.get _ (by omega)).trans q1
 have fh3:=f1.trans f13
 have hz3:=hz.fr fh3
 have hr3:Ra K g3 [.str x.rc.path,v1,.int .i64 x.rc.own,.bool x.rc.gone,.int .i64 x.rc.size,.int .i64 x.rc.len,d1] x.rc:=hrc.fr fh3
 have hr30:Ra (fun _=>0) g3 [.str x.rc.path,v1,.int .i64 x.rc.own,.bool x.rc.gone,.int .i64 x.rc.size,.int .i64 x.rc.len,d1] x.rc:=hr3.col fun _ _ _=>rfl
 have c1:C[1]? = some (.int .i64 x.dev):=by rw [←hC];rfl
 have c7:C[7]? = some (.str x.dfolder):=by rw [←hC];rfl
 have c16:C[16]? = some (.str x.copy):=by rw [←hC];rfl
 have c17:C[17]? = some (.str x.cp.path):=by rw [←hC];rfl
 have cl2:2≤C.length:=by omega
 have cl8:8≤C.length:=by omega
 have cl17:17≤C.length:=by omega
 have cl18:18≤C.length:=by omega
 have cl24:24≤C.length:=by omega
 have c17r:(C.drop 17).take 7=[.str x.cp.path,v2,.int .i64 x.cp.own,.bool x.cp.gone,.int .i64 x.cp.size,.int .i64 x.cp.len,d2]:=by rw [←hC];rfl
 have hcp:Ra K h [.str x.cp.path,v2,.int .i64 x.cp.own,.bool x.cp.gone,.int .i64 x.cp.size,.int .i64 x.cp.len,d2] x.cp:=⟨v2,d2,rfl,h4,h5,h6⟩
 have en:=fun g a=>neSb g a []
 refine callK_of (takenC hS.toMo (x.dev,(x.dfolder,x.rc.path)) hz3.vs.vw hr30) ?_
 rintro v g4 ⟨⟨bt,rfl,hbt⟩,f4⟩
 have n4:=f4.nx
 have hbt:bt=false:=hbt hv0
 subst hbt
 simp -dsimp (disch:=repeat first|rw [nxn]|rw [nxp]|omega) only [go_sem]
 exact ⟨by first | trivial | rfl,fh3.trans f4⟩
theorem did0C (hS:Nf S) {n0:Nat} {K:Nat→Nat} {h:AH} {p:Nat} {l:List Hd} {s:List Mt} {cs:List AV} {x:Se} (hz:Zs n0 K h p l s) (hx:Sa K h cs x) (hk:x.dkind=3) (hv0:versF l x.dfolder x.rc.path=[]):RnC Tryz.prog S 43 [.ptr p 0,.agg cs] h fun v h'=>v=.int .i64 2∧Fr h h':=by
 have hx0:=hx
 obtain ⟨v1,d1,v2,d2,rw',rv,rfl,h1,h2,h3,h4,h5,h6,h7,h8⟩:=hx
 have o1:=h1.ln.2.2.2
 have o2:=h2.ln.2.2
 have o4:=h4.ln.2.2.2
 have o5:=h5.ln.2.2
 have o7:=h7.ln.2.2
 have o8:=h8.ln.2.2
 have p1:=oneM o1
 have p2:=oneM o2
 have p4:=oneM o4
 have p5:=oneM o5
 have p7:=oneM o7
 have p8:=oneM o8
 have hrc:=Sa.rc (x:=x) h1 h2 h3
 have hrs:=hrc.sv
 have hxs:=hx0.sv
 refine RnC.enter' Tryz.f43 _ 25 [.tmp 4] (hS.nb _ _ _ (by simp)) bd43 Tryz.func43 rfl rfl rfl ?_
 simp -dsimp only [go_sem,o1,o2,o4,o5,o7,o8,p1,p2,p4,p5,p7,p8]
 generalize hC:([.int .i64 x.kind,.int .i64 x.dev,.int .i64 x.peer,.int .i64 x.num,.str x.folder,.str x.path,.int .i64 x.dkind,.str x.dfolder,.str x.dpath,.str x.rc.path,v1,.int .i64 x.rc.own,.bool x.rc.gone,.int .i64 x.rc.size,.int .i64 x.rc.len,d1,.str x.copy,.str x.cp.path,v2,.int .i64 x.cp.own,.bool x.cp.gone,.int .i64 x.cp.size,.int .i64 x.cp.len,d2,.int .i64 x.ckind,.str x.cfolder,.int .i64 x.cdev,.int .i64 x.mt.own,rw',rv]:List AV)=C at *
 have cl:C.length=30:=by rw [←hC];rfl
 have c6:C[6]? = some (.int .i64 x.dkind):=by rw [←hC];rfl
 have cl7:7≤C.length:=by omega
 have c30:C.take 30=C:=by rw [←hC];rfl
 have cl30:30≤C.length:=by omega
 have f2:Fr h ((h.new (.cells C true false)).new (.map [] [] 0)):=(Fr.new _ _).news _
 have q2:((h.new (.cells C true false)).new (.map [] [] 0)).get h.nx=some (.cells C true false):=(AH.get_new_ne (by simp [AH.new])).trans (AH.get_new_eq rfl)
 have m2:∃bs ck,((h.new (.cells C true false)).new (.map [] [] 0)).get (h.nx+1)=some (.map (em []) bs ck):=⟨[],0,AH.get_new_eq rfl⟩
 have n2:((h.new (.cells C true false)).new (.map [] [] 0)).nx=h.nx+2:=rfl
 generalize ((h.new (.cells C true false)).new (.map [] [] 0))=g2 at f2 q2 m2 n2 ⊢
 have hu:=Tryz.underlying110
 have hi3:=Tryz.underlying3
 obtain ⟨g3,s3,e3,o3,m3⟩:=muE hu hi3 m2 1 (.func (.func 56) [.ptr p 0] []) (by simp)
 obtain ⟨g4,s4,e4,o4,m4⟩:=muE hu hi3 m3 2 (.func (.func 57) [.ptr p 0] []) (by simp)
 obtain ⟨g5,s5,e5,o5,m5⟩:=muE hu hi3 m4 3 (.func (.func 58) [.ptr p 0] []) (by simp)
 obtain ⟨g6,s6,e6,o6,m6⟩:=muE hu hi3 m5 4 (.func (.func 59) [.ptr p 0] []) (by simp)
 have q6:=(o6 h.nx (by omega)).trans ((o5 _ (by omega)).trans ((o4 _ (by omega)).trans ((o3 _ (by omega)).trans q2)))
 have f6:Fr h g6:=⟨by omega,fun j hj=>(o6 j (by omega)).trans ((o5 j (by omega)).trans ((o4 j (by omega)).trans ((o3 j (by omega)).trans (f2.get j hj))))⟩
 obtain ⟨bs,ck,m6⟩:=m6
 simp only [List.nil_append,List.cons_append] at m6
 have hz6:=hz.fr f6
 have hx6:=hx0.fr f6
 have lk:=luI (P:=Tryz.prog) hu hi3 (l:=[(1,.func (.func 56) [.ptr p 0] []),(2,.func (.func 57) [.ptr p 0] [])]) (l2:=[(4,.func (.func 59) [.ptr p 0] [])]) (k:=3) (v:=.func (.func 58) [.ptr p 0] []) m6 (by simp)
 rw [←hk] at lk
 have hnf:∀g,binA Tryz.prog g .eql 101 (.func (.func 58) [.ptr p 0] []) .nilfunc=some (.bool false):=fun g=>by kernel_rfl
 simp -dsimp only [go_sem,s3,s4,s5,s6,q6,c6,cl7,lk,hnf,c30,cl30]
 refine callK_of (took0C hS hz6 hx6 hv0) ?_
 rintro v g7 ⟨rfl,f7⟩
 try simp -dsimp only [go_sem]
 exact ⟨by first | trivial | rfl,f6.trans f7⟩
theorem didX (hS:Nf S) {Inv:Nat→List Hd→Prop} (hI:InvOK Inv) {n0 n b:Nat} {K:Nat→Nat} {h:AH} {p:Nat} {l:List Hd} {s:List Mt} {cs:List AV} {x:Se} (hz:Zs n0 K h p l s) (hx:Sa K h cs x) (hi:Inv n l) (hb:SB b s) (hn:n+20<1000000):RnC Tryz.prog S 43 [.ptr p 0,.agg cs] h fun v h'=>Act Inv n0 K h p (n+20) (b+1) v h'∧(x.dkind=3→versF l x.dfolder x.rc.path=[]→v=.int .i64 2):=by
 have h1:=didC hS hI hz hx hi hb hn
 by_cases hk:x.dkind=3
 ·by_cases hv0:versF l x.dfolder x.rc.path=[]
  ·exact (h1.and (did0C hS hz hx hk hv0)).mono fun v h' hq=>⟨hq.1,fun _ _=>hq.2.1⟩
  ·exact h1.mono fun v h' hq=>⟨hq,fun _ hh=>absurd hh hv0⟩
 ·exact h1.mono fun v h' hq=>⟨hq,fun hh=>absurd hh hk⟩
end
theorem Zs.rd {n0:Nat} {K:Nat→Nat} {h:AH} {p:Nat} {l:List Hd} {s:List Mt} (z:Zs n0 K h p l s) {KD:Nat→Nat} (hd:∀j,K j≠9→KD j=0):∃hv sv,h.get p=some (.cells [hv,sv] true false)∧Hs KD h hv l∧Ms KD h sv s:=by
 obtain ⟨hv,sv,h1,h2,h3,h4⟩:=z.ob
 have h0:∀j,j<h.nx→K j=0→KD j=0:=fun j _ hk=>hd j (by omega)
 refine ⟨hv,sv,h1,⟨h2.sls eyH (fun id o n c hv=>hd id (by rw [(h2.id eyH hv).2.2.1];decide)) fun cs x hx=>?_,z.ln.1⟩,⟨h3.sls elMa h0 fun id o n c hv=>hd id (by rw [h4 id (by rw [hv];rfl)];decide),z.ln.2⟩⟩
 obtain ⟨v,d,pv,rfl,e1,e2,e3,e4,e5,e6⟩:=hx
 exact ⟨v,d,pv,rfl,e1.col h0,e2.col h0,e3,e4.sls elRa h0 fun id o n c hv=>hd id (by rw [e5 id (by rw [hv];rfl)];decide),e6⟩
def kq (K:Nat→Nat) (q j:Nat):Nat:=if j=q then 9 else K j
theorem kq_ne {K:Nat→Nat} {q j:Nat} (h:j≠q):kq K q j=K j:=if_neg h
theorem kq_eq {K:Nat→Nat} {q:Nat}:kq K q q=9:=if_pos rfl
theorem kq9 {K:Nat→Nat} (k9:∀j,K j=0∨K j=9) (q j:Nat):kq K q j=0∨kq K q j=9:=by
 unfold kq;split
 ·exact .inr rfl
 ·exact k9 j
theorem zs_end {K:Nat→Nat} {h:AH} (top:∀j,h.nx≤j→K j=0) (k9:∀j,K j=0∨K j=9) {q:Nat} (hq:h.nx≤q) {n0:Nat} {K3:Nat→Nat} {g:AH} {p:Nat} {l:List Hd} {s:List Mt} (hz:Zs n0 K3 g p l s) (h3:∀j,j<q+1→K3 j=kq K q j) :
  ∃hv sv,g.get p=some (.cells [hv,sv] true false)∧p≠q∧Hs (kq K q) g hv l∧Ms (kq K q) g sv s∧∀o,Hs K (g.put q o) hv l∧Ms K (g.put q o) sv s:=by
 have hd:∀j,K3 j≠9→kq K q j=0:=fun j hj=>by
  by_cases h1:j<q+1
  ·rw [h3 j h1] at hj
   rcases kq9 k9 q j with h2 | h2
   ·exact h2
   ·exact absurd h2 hj
  ·rw [kq_ne (by omega)];exact top j (by omega)
 obtain ⟨hv,sv,e1,e2,e3⟩:=hz.rd hd
 have hpq:p≠q:=fun hh=>by
  have h4:=h3 p (by omega)
  rw [hz.pn.2.2,hh,kq_eq] at h4
  cases h4
 have gk:∀o,Gk (kq K q) g (g.put q o):=fun o=>(Gk.refl _ _).put (.inl (by rw [kq_eq];decide)) o
 have hc:∀j,kq K q j=0→K j=0:=fun j hj=>by
  by_cases h4:j=q
  ·rw [h4];exact top q hq
  ·rwa [kq_ne h4] at hj
 exact ⟨hv,sv,e1,hpq,e2,e3,fun o=>⟨(e2.gk (gk o)).col fun j _ hj=>hc j hj,(e3.gk (gk o)).col fun j _ hj=>hc j hj⟩⟩
def StepQ (Inv:Nat→List Hd→Prop) (K:Nat→Nat) (h:AH) (n b:Nat) (l:List Hd) (s:List Mt) (x:Se) (v:AV) (h':AH):Prop :=
 ∃hw sw l' s' why,v=.tup [.agg [hw,sw],.int .i64 why]∧Hs K h' hw l'∧Ms K h' sw s'∧Fr h h'∧(why=0→Inv (n+20) l'∧SB (b+1) s')∧(why≠0→l'=l∧s'=s)∧(x.kind=2→x.dkind=3→versF l x.dfolder x.rc.path=[]→why=2)
section
variable {S : Sums}
theorem stepC (hS:Nw S) {Inv:Nat→List Hd→Prop} (hI:InvOK Inv) {n b:Nat} {K:Nat→Nat} {h:AH} (top:∀j,h.nx≤j→K j=0) (k9:∀j,K j=0∨K j=9) {hv sv:AV} {l:List Hd} {s:List Mt} {cs:List AV} {x:Se} (hh:Hs K h hv l) (hs:Ms K h sv s) (hx:Sa K h cs x) (hi:Inv n l) (hb:SB b s) (hn:n+20<1000000) (hbb:b<1000000) (hmx:szM x.mt (b+1)) (hrl:x.rs.length≤20) :
  RnC Tryz.prog S 7 [.agg [hv,sv],.agg cs] h (StepQ Inv K h n b l s x):=by
 have hx0:=hx
 obtain ⟨v1,d1,v2,d2,rw',rv,rfl,h1,h2,h3,h4,h5,h6,h7,h8⟩:=hx
 have o1:=h1.ln.2.2.2
 have o2:=h2.ln.2.2
 have o4:=h4.ln.2.2.2
 have o5:=h5.ln.2.2
 have o7:=h7.ln.2.2
 have o8:=h8.ln.2.2
 have p1:=oneM o1
 have p2:=oneM o2
 have p4:=oneM o4
 have p5:=oneM o5
 have p7:=oneM o7
 have p8:=oneM o8
 obtain ⟨lhv,shv,ohv⟩:=hh.ln
 obtain ⟨lsv,ssv,osv⟩:=hs.ln
 have mhv:=oneM ohv
 have msv:=oneM osv
 have hxs:=hx0.sv
 refine RnC.enter' Tryz.f7 _ 33 [.cell 4 28,.tmp 5] (hS.nw9 _ _ _ (by simp)) bd7 Tryz.func7 rfl rfl rfl ?_
 simp -dsimp only [go_sem,ohv,osv,mhv,msv,o1,o2,o4,o5,o7,o8,p1,p2,p4,p5,p7,p8]
 generalize hC:([.int .i64 x.kind,.int .i64 x.dev,.int .i64 x.peer,.int .i64 x.num,.str x.folder,.str x.path,.int .i64 x.dkind,.str x.dfolder,.str x.dpath,.str x.rc.path,v1,.int .i64 x.rc.own,.bool x.rc.gone,.int .i64 x.rc.size,.int .i64 x.rc.len,d1,.str x.copy,.str x.cp.path,v2,.int .i64 x.cp.own,.bool x.cp.gone,.int .i64 x.cp.size,.int .i64 x.cp.len,d2,.int .i64 x.ckind,.str x.cfolder,.int .i64 x.cdev,.int .i64 x.mt.own,rw',rv]:List AV)=C at *
 have c30:C.take 30=C:=by rw [←hC];rfl
 have cl:C.length=30:=by rw [←hC];rfl
 have c0:C[0]? = some (.int .i64 x.kind):=by rw [←hC];rfl
 have c0':C.head? = some (.int .i64 x.kind):=by rw [←hC];rfl
 have cl30:30≤C.length:=by omega
 have cl1:1≤C.length:=by omega
 generalize hg:(((h.new (.cells [hv,sv] true false)).new (.cells C true false)).new (.cells [.nilsl,.nilsl] true false))=g1
 have n1:g1.nx=h.nx+1+1+1:=by rw [←hg];rfl
 have f1:Fr h g1:=by rw [←hg];exact ((Fr.new _ _).news _).news _
 have q0:g1.get h.nx=some (.cells [hv,sv] true false):=by rw [←hg];exact (AH.get_new_ne (by simp [AH.new];omega)).trans ((AH.get_new_ne (by simp [AH.new])).trans (AH.get_new_eq rfl))
 have q1:g1.get (h.nx+1)=some (.cells C true false):=by rw [←hg];exact (AH.get_new_ne (by simp [AH.new])).trans (AH.get_new_eq rfl)
 have q2:g1.get (h.nx+1+1)=some (.cells [.nilsl,.nilsl] true false):=by rw [←hg];exact AH.get_new_eq rfl
 clear hg
 have topq:∀j,g1.nx≤j→kq K (h.nx+1+1) j=0:=fun j hj=>(kq_ne (by omega)).trans (top j (by omega))
 have kc:∀j,j<h.nx→K j=0→kq K (h.nx+1+1) j=0:=fun j hj hk=>(kq_ne (by omega)).trans hk
 have hh1:=(hh.col kc).fr f1
 have hs1:=(hs.col kc).fr f1
 try simp -dsimp only [go_sem,q0,ohv,osv,mhv,msv]
 have hh0:Hs (fun _=>0) g1 hv l:=(hh.col fun _ _ _=>rfl).fr f1
 have hs0:Ms (fun _=>0) g1 sv s:=(hs.col fun _ _ _=>rfl).fr f1
 refine callK_of ((beginC hS.toNv.toNf topq (kq9 k9 _) hh1 hs1).and (beginC hS.toNv.toNf (fun _ _=>rfl) (fun _=>.inl rfl) hh0 hs0)) ?_
 rintro r g2 ⟨⟨⟨p,K2,rfl,hz,hk2⟩,f2⟩,⟨p',KB,ep,hzB,hkB⟩,_⟩
 cases ep
 have n2:=f2.nx
 have u0:=(f2.get _ (by omega)).trans q0
 have u1:=(f2.get _ (by omega)).trans q1
 have u2:=(f2.get _ (by omega)).trans q2
 have kc2:∀j,j<h.nx→K j=0→K2 j=0:=fun j hj hk=>(hk2 j (by omega)).trans (kc j hj hk)
 have hx2:=((hx0.col kc2).fr f1).fr f2
 have hx2B:Sa KB g2 C x:=((hx0.col fun j hj _=>hkB j (by omega)).fr f1).fr f2
 try simp -dsimp only [go_sem]
 refine syDraw.keepN 3 (fun j=>j=h.nx+1) (by kernel_rfl) (by kernel_rfl) rfl ?_
 have fA:Fr g2 { tr:=g2.tr,nx:=g2.nx+5 }:=(Fr.refl g2).more _ (by omega)
 simp -dsimp only [go_sem,evLen,true_and,true_or,or_true,implies_true,svi,svb,svs,svp]
 refine callK_of (doesC hS) ?_
 rintro v g3 ⟨rfl,f3,n3,m3⟩
 obtain ⟨bs,ck,m3⟩:=m3
 have n3':g2.nx+5≤g3.nx:=f3.nx
 have f23:=fA.trans f3
 have w0:=(f23.get _ (by omega)).trans u0
 have w1:=(f23.get _ (by omega)).trans u1
 have w2:=(f23.get _ (by omega)).trans u2
 refine ⟨fun j hj=>f3.get j (by show j<g2.nx+5;omega),?_⟩
 have hu:=Tryz.underlying70
 have hi3:=Tryz.underlying3
 have hzA:=hz.fr f23
 have hxA:=hx2.fr f23
 have hzB3:=hzB.fr f23
 have hxB:=hx2B.fr f23
 have fh3:=(f1.trans f2).trans f23
 have hkd:x.kind=2∨x.kind=3∨x.kind=6∨x.kind=4∨x.kind=8∨(x.kind≠2∧x.kind≠3∧x.kind≠6∧x.kind≠4∧x.kind≠8):=by omega
 rcases hkd with hk | hk | hk | hk | hk | ⟨hka,hkb,hkc,hkd,hke⟩
 case inr.inr.inr.inr.inr =>
  have lk:=luN (P:=Tryz.prog) hu hi3 (show tzero Tryz.prog 69=some .nilFunc by kernel_rfl) (k:=x.kind) (l:=dm) m3 (by unfold dm;simp;omega)
  have hnf:∀g,binA Tryz.prog g .neq 69 .nilfunc .nilfunc=some (.bool false):=fun g=>by kernel_rfl
  obtain ⟨hw',sw',e1,e2,e4,e5,e3⟩:=zs_end top k9 (q:=h.nx+1+1) (by omega) hzA fun j hj=>hk2 j (by omega)
  have ohw:=e4.ln.2.2
  have osw:=e5.ln.2.2
  have mhw:=oneM ohw
  have msw:=oneM osw
  have htz:toAV0 Value.nilFunc=.nilfunc:=rfl
  simp -dsimp only [go_sem,evLen,w1,c0,c0',cl1,lk,hnf,e1,w2,ohw,osw,mhw,msw,toAV,htz,true_and,true_or,or_true,implies_true,svi,svb,svs,svp]
  exact ⟨hw',sw',l,s,0,rfl,(e3 _).1,(e3 _).2,fh3.put _ (by omega),fun _=>⟨hI.mono _ _ _ hi (by omega),hb.mono (by omega)⟩,fun hh=>absurd rfl hh,fun e0=>absurd e0 hka⟩
 case' inl =>
  have lk:=luI (P:=Tryz.prog) hu hi3 (l:=[]) (l2:=[(3,.func (.func 44) [] []),(6,.func (.func 45) [] []),(4,.func (.func 46) [] []),(8,.func (.func 47) [] [])]) (k:=2) (v:=.func (.func 43) [] []) m3 (by simp)
  rw [←hk] at lk
  have hnf:∀g,binA Tryz.prog g .neq 69 (.func (.func 43) [] []) .nilfunc=some (.bool true):=fun g=>by kernel_rfl
  simp -dsimp only [go_sem,evLen,w1,c0,c0',cl1,lk,hnf,c30,cl30,true_and,true_or,or_true,implies_true,svi,svb,svs,svp]
  refine callK_of ((didX hS.toNv.toNf hI hzA hxA hi hb hn).and (didX hS.toNv.toNf hI hzB3 hxB hi hb hn)) ?_
  rintro v g4 ⟨⟨⟨why,K3,l',s',rfl,hzz,zgg,hok⟩,hw2⟩,⟨whyB,K3B,lB,sB,_,_,zgB,_⟩,_⟩
  have hw3:x.kind=2→x.dkind=3→versF l x.dfolder x.rc.path=[]→why=2:=fun _ e1 e2=>by have:=hw2 e1 e2;cases this;rfl
 case' inr.inl =>
  have lk:=luI (P:=Tryz.prog) hu hi3 (l:=[(2,.func (.func 43) [] [])]) (l2:=[(6,.func (.func 45) [] []),(4,.func (.func 46) [] []),(8,.func (.func 47) [] [])]) (k:=3) (v:=.func (.func 44) [] []) m3 (by simp)
  rw [←hk] at lk
  have hnf:∀g,binA Tryz.prog g .neq 69 (.func (.func 44) [] []) .nilfunc=some (.bool true):=fun g=>by kernel_rfl
  simp -dsimp only [go_sem,evLen,w1,c0,c0',cl1,lk,hnf,c30,cl30,true_and,true_or,or_true,implies_true,svi,svb,svs,svp]
  refine callK_of ((toldC hS.toNv.toNf hI hzA hxA hi hb hn).and (toldC hS.toNv.toNf hI hzB3 hxB hi hb hn)) ?_
  rintro v g4 ⟨⟨why,K3,l',s',rfl,hzz,zgg,hok⟩,⟨whyB,K3B,lB,sB,_,_,zgB,_⟩⟩
  have hw3:x.kind=2→x.dkind=3→versF l x.dfolder x.rc.path=[]→why=2:=fun e0=>by omega
 case' inr.inr.inl =>
  have lk:=luI (P:=Tryz.prog) hu hi3 (l:=[(2,.func (.func 43) [] []),(3,.func (.func 44) [] [])]) (l2:=[(4,.func (.func 46) [] []),(8,.func (.func 47) [] [])]) (k:=6) (v:=.func (.func 45) [] []) m3 (by simp)
  rw [←hk] at lk
  have hnf:∀g,binA Tryz.prog g .neq 69 (.func (.func 45) [] []) .nilfunc=some (.bool true):=fun g=>by kernel_rfl
  simp -dsimp only [go_sem,evLen,w1,c0,c0',cl1,lk,hnf,c30,cl30,true_and,true_or,or_true,implies_true,svi,svb,svs,svp]
  refine callK_of ((changesC hS.toNv.toNf hI hzA hxA hi hb hn hbb hmx).and (changesC hS.toNv.toNf hI hzB3 hxB hi hb hn hbb hmx)) ?_
  rintro v g4 ⟨⟨why,K3,l',s',rfl,hzz,zgg,hok⟩,⟨whyB,K3B,lB,sB,_,_,zgB,_⟩⟩
  have hw3:x.kind=2→x.dkind=3→versF l x.dfolder x.rc.path=[]→why=2:=fun e0=>by omega
 case' inr.inr.inr.inl =>
  have lk:=luI (P:=Tryz.prog) hu hi3 (l:=[(2,.func (.func 43) [] []),(3,.func (.func 44) [] []),(6,.func (.func 45) [] [])]) (l2:=[(8,.func (.func 47) [] [])]) (k:=4) (v:=.func (.func 46) [] []) m3 (by simp)
  rw [←hk] at lk
  have hnf:∀g,binA Tryz.prog g .neq 69 (.func (.func 46) [] []) .nilfunc=some (.bool true):=fun g=>by kernel_rfl
  simp -dsimp only [go_sem,evLen,w1,c0,c0',cl1,lk,hnf,c30,cl30,true_and,true_or,or_true,implies_true,svi,svb,svs,svp]
  refine callK_of ((seenUpC hS.toNv.toNf hI hzA hxA hi hb hn hbb hmx).and (seenUpC hS.toNv.toNf hI hzB3 hxB hi hb hn hbb hmx)) ?_
  rintro v g4 ⟨⟨why,K3,l',s',rfl,hzz,zgg,hok⟩,⟨whyB,K3B,lB,sB,_,_,zgB,_⟩⟩
  have hw3:x.kind=2→x.dkind=3→versF l x.dfolder x.rc.path=[]→why=2:=fun e0=>by omega
 case' inr.inr.inr.inr.inl =>
  have lk:=luI (P:=Tryz.prog) hu hi3 (l:=[(2,.func (.func 43) [] []),(3,.func (.func 44) [] []),(6,.func (.func 45) [] []),(4,.func (.func 46) [] [])]) (l2:=[]) (k:=8) (v:=.func (.func 47) [] []) m3 (by simp)
  rw [←hk] at lk
  have hnf:∀g,binA Tryz.prog g .neq 69 (.func (.func 47) [] []) .nilfunc=some (.bool true):=fun g=>by kernel_rfl
  simp -dsimp only [go_sem,evLen,w1,c0,c0',cl1,lk,hnf,c30,cl30,true_and,true_or,or_true,implies_true,svi,svb,svs,svp]
  refine callK_of ((hasC hS.toNv hI hzA hxA hi hb hn hrl).and (hasC hS.toNv hI hzB3 hxB hi hb hn hrl)) ?_
  rintro v g4 ⟨⟨why,K3,l',s',rfl,hzz,zgg,hok⟩,⟨whyB,K3B,lB,sB,_,_,zgB,_⟩⟩
  have hw3:x.kind=2→x.dkind=3→versF l x.dfolder x.rc.path=[]→why=2:=fun e0=>by omega
 all_goals
  have n4:=zgg.gk.nx
  have hk3:∀j,j<h.nx+1+1+1→K3 j=kq K (h.nx+1+1) j:=fun j hj=>(zgg.col j (by omega)).trans (hk2 j (by omega))
  have fr4:∀j,j<g1.nx→g4.get j=g3.get j:=fun j hj=>zgB.gk.get j (by omega) (hkB j hj)
  have x0:=(fr4 _ (by omega)).trans w0
  have x2:=(fr4 _ (by omega)).trans w2
  have fh4:Fr h g4:=⟨by have:=fh3.nx;omega,fun j hj=>(fr4 j (by omega)).trans (fh3.get j hj)⟩
  by_cases hw:why=0
  ·obtain ⟨hw',sw',e1,e2,e4,e5,e3⟩:=zs_end top k9 (by omega) hzz hk3
   have ohw:=e4.ln.2.2
   have osw:=e5.ln.2.2
   have mhw:=oneM ohw
   have msw:=oneM osw
   have hwb:(why != 0)=false:=by simp [hw]
   simp -dsimp only [go_sem,hwb,neIb,e1,x2,ohw,osw,mhw,msw]
   exact ⟨hw',sw',l',s',0,rfl,(e3 _).1,(e3 _).2,fh4.put _ (by omega),fun _=>hok hw,fun hh=>absurd rfl hh,fun a1 a2 a3=>(by have:=hw3 a1 a2 a3;omega)⟩
  ·have hwb:(why != 0)=true:=by simpa using hw
   have hh4:Hs (kq K (h.nx+1+1)) g4 hv l:=(hh.col kc).fr fh4
   have hs4:Ms (kq K (h.nx+1+1)) g4 sv s:=(hs.col kc).fr fh4
   simp -dsimp only [go_sem,hwb,neIb,x0,ohv,osv,mhv,msv]
   refine callK_of (beginC hS.toNv.toNf (fun j hj=>topq j (by omega)) (kq9 k9 _) hh4 hs4) ?_
   rintro r g5 ⟨⟨p5,K5,rfl,hz5,hk5⟩,f5⟩
   have n5:=f5.nx
   have y2:=(f5.get _ (by omega)).trans x2
   obtain ⟨hw',sw',e1,e2,e4,e5,e3⟩:=zs_end top k9 (q:=h.nx+1+1) (by omega) hz5 fun j hj=>hk5 j (by omega)
   have ohw:=e4.ln.2.2
   have osw:=e5.ln.2.2
   have mhw:=oneM ohw
   have msw:=oneM osw
   simp -dsimp only [go_sem,e1,y2,ohw,osw,mhw,msw]
   exact ⟨hw',sw',l,s,why,rfl,(e3 _).1,(e3 _).2,(fh4.trans f5).put _ (by omega),fun hh=>absurd hh hw,fun _=>⟨rfl,rfl⟩,hw3⟩
end
end Go.Proofs.YtihigekgnnoejaaGreatDoor.mdl
end