/- The abstract layer, parts 49 to 75. Conditions: none. -/
import Derived.Test.YtihigekgnnoejaaGreatDoorAb5
import Derived.Lib.Overlaps
set_option linter.unusedVariables false
set_option linter.unusedSimpArgs false
section
namespace Go.Abs
open Go
abbrev Pth:=List Nat
structure Fil where
 b:List Nat
 s:List Nat
 st:Nat
inductive Nte where
 | mk (p:Pth) (i:Nat)
 | ren (a b:Pth)
 | rm (p:Pth)
abbrev Ixs:=List (Pth×Nat)
def doN:Nte→Ixs→Ixs
 | .mk p i,E=>updS E p i
 | .ren a b,E=>match valS E a with
  | some i=>delS (updS E b i) a
  | none=>E
 | .rm p,E=>delS E p
def doAll:List Nte→Ixs→Ixs
 | [],E=>E
 | n::r,E=>doAll r (doN n E)
structure TT where
 room:Int
 now:Ixs
 safe:Ixs
 notes:List Nte
 clock:Nat
 off:Bool
 fuse:Int
 files:List Fil
/-! ### What is right of every tree -/
def NteOK (n:Nat):Nte→Prop
 | .mk p i=>i<n∧p.length≤69
 | .ren a b=>b.length≤69
 | .rm _=>True
def IxOK (n:Nat) (E:Ixs):Prop:=onceS E∧∀k i,valS E k=some i→i<n∧k.length≤69
def FilOK (f:Fil):Prop:=(∀b∈f.b,b<256)∧(∀b∈f.s,b<256)∧f.b.length≤67108864∧f.s.length≤67108864
structure Wf (T:TT):Prop where
 now:IxOK T.files.length T.now
 safe:IxOK T.files.length T.safe
 notes:∀n∈T.notes,NteOK T.files.length n
 fuse:-1≤T.fuse∧T.fuse≤9223372036854775807
 room:0≤T.room∧T.room≤67108864
 byt:∀f∈T.files,FilOK f
namespace Wal
def nf (φ:Int):Int:=if 0<φ then φ-1 else φ
section
variable {R : Int} {N Sf : Ixs} {nt : List Nte} {c : Nat} {φ : Int} {fs : List Fil} {p q : Pth}
end
structure Bm (n c:Nat) (T:TT):Prop where
 now:T.now.length≤n
 sn:T.safe.length+T.notes.length≤n
 clock:T.clock≤c
section
variable {n c : Nat} {T : TT}
end
end Wal
namespace Stb
section
variable {α : Type} (lt : α → α → Bool)
def srt:List α→Prop
 | []=>True
 | x::r=>(∀y∈r,lt y x=false)∧srt r
structure Wo:Prop where
 irr:∀x,lt x x=false
 tr:∀x y z,lt x y=true→lt y z=true→lt x z=true
 ntr:∀x y z,lt x y=false→lt y z=false→lt x z=false
variable {lt}
end
end Stb
open Go.Abs.Wal
/-! ### The order of texts -/
theorem lessA_irr:∀x:List Nat,lessA x x=false
 | []=>rfl
 | a::x=>by
  have:Nat.blt a a=false:=by rw [Bool.eq_false_iff];intro h;rw [Nat.blt_eq] at h;exact absurd h (Nat.lt_irrefl a)
  unfold lessA
  rw [this,lessA_irr x];simp
theorem lessA_cons (a b:Nat) (x y:List Nat):lessA (a::x) (b::y)=true↔a<b∨(a=b∧lessA x y=true):=by
 have e:lessA (a::x) (b::y)=(Nat.blt a b||(Nat.beq a b&&lessA x y)):=rfl
 rw [e]
 simp [Nat.blt_eq,Nat.beq_eq]
theorem lessA_tr:∀x y z:List Nat,lessA x y=true→lessA y z=true→lessA x z=true
 | _,[],_,h,_=>by cases ‹List Nat› <;> simp [lessA] at h
 | _,_::_,[],_,h=>by simp [lessA] at h
 | [],_::_,_::_,_,_=>rfl
 | a::x,b::y,c::z,h1,h2=>by
  rw [lessA_cons] at *
  rcases h1 with h1 | ⟨h1,h3⟩ <;> rcases h2 with h2 | ⟨h2,h4⟩
  ·exact .inl (by omega)
  ·exact .inl (by omega)
  ·exact .inl (by omega)
  ·exact .inr ⟨by omega,lessA_tr x y z h3 h4⟩
theorem lessA_tot:∀x y:List Nat,x≠y→lessA x y=false→lessA y x=true
 | [],[],h,_=>absurd rfl h
 | [],_::_,_,h=>by simp [lessA] at h
 | _::_,[],_,_=>rfl
 | a::x,b::y,h,h1=>by
  rw [lessA_cons]
  have h2:¬(a<b∨(a=b∧lessA x y=true)):=by rw [←lessA_cons,h1];simp
  by_cases hab:a=b
  ·subst hab
   have hxy:x≠y:=fun hh=>h (by rw [hh])
   have:lessA x y=false:=by
    cases hl:lessA x y
    ·rfl
    ·exact absurd (.inr ⟨rfl,hl⟩) h2
   exact .inr ⟨rfl,lessA_tot x y hxy this⟩
  ·exact .inl (by omega)
theorem lessA_asym {x y:List Nat} (h:lessA x y=true):lessA y x=false:=by
 cases hl:lessA y x
 ·rfl
 ·have:=lessA_tr _ _ _ h hl
  rw [lessA_irr] at this;cases this
/-! ### Rising lists of texts -/
/-! ### Rising lists of texts and numbers -/
def riseE:Ixs→Prop
 | []=>True
 | e::r=>(∀x∈r,lessA e.1 x.1=true)∧riseE r
/-! ### A rising list says what a map says -/
structure SE (A E:Ixs):Prop where
 rise:riseE A
 once:onceS E
 val:∀k,valS A k=valS E k
def plainN:Nte→Prop
 | .ren _ _=>False
 | _=>True
/-! ### The same -/
structure DRt (R T:TT):Prop where
 room:R.room=T.room
 now:SE R.now T.now
 safe:SE R.safe T.safe
 notes:R.notes=T.notes
 clock:R.clock=T.clock
 off:R.off=T.off
 fuse:R.fuse=T.fuse
 files:R.files=T.files
 pl:∀n∈T.notes,plainN n
 don:∀k,valS (doAll T.notes T.safe) k=valS T.now k
structure DCt (R T:TT):Prop where
 room:R.room=T.room
 now:SE R.now T.now
 clock:R.clock=T.clock
 files:R.files=T.files
section
variable {P : Program}
def Ez (z n0:Nat) (h:AH) (v:AV) (l:List AV):Prop :=
 (v=.nilsl∧l=[])∨∃id n c tx,v=.sl id 0 n z c∧h.get id=some (.cells l true tx)∧id<h.nx∧n0≤id∧l.length=n*z∧(c=none∨c=some n)∧(tx=false∨(l=[]∧c=some 0))
theorem Ez.fr {z n0:Nat} {h h':AH} {v:AV} {l:List AV} (hb:Ez z n0 h v l) (hf:Fr h h'):Ez z n0 h' v l:=by
 rcases hb with h1 | ⟨id,n,c,tx,h1,h2,h3,h4,h5⟩
 ·exact .inl h1
 ·exact .inr ⟨id,n,c,tx,h1,(hf.get id h3).trans h2,Nat.lt_of_lt_of_le h3 hf.nx,h4,h5⟩
theorem Ez.low {z n0 n1:Nat} {h:AH} {v:AV} {l:List AV} (hb:Ez z n0 h v l) (hn:n1≤n0):Ez z n1 h v l:=by
 rcases hb with h1 | ⟨id,n,c,tx,h1,h2,h3,h4,h5⟩
 ·exact .inl h1
 ·exact .inr ⟨id,n,c,tx,h1,h2,h3,Nat.le_trans hn h4,h5⟩
theorem Ez.one {z n0:Nat} {h:AH} {v:AV} {l:List AV} (hb:Ez z n0 h v l):sameAV 20 v v=true∧oneA v=true:=by
 rcases hb with ⟨rfl,rfl⟩ | ⟨id,n,c,tx,rfl,h2,h3,h4,h5,h6,h7⟩
 ·exact ⟨rfl,rfl⟩
 ·exact ⟨by simp [sameAV],rfl⟩
/-! ### Cells of two each -/
end
/-! ### How great it grows -/
structure Lv0 (D:List Pth) (m c:Nat) (R:TT):Prop where
 rn:riseE R.now
 rs:riseE R.safe
 now:∀e∈R.now,e.1∈D
 safe:∀e∈R.safe,e.1∈D
 nmk:∀n∈R.notes,∀p i,n=Nte.mk p i→p∈D
 m:R.now.length+R.notes.length≤m
 clock:R.clock≤c
section
variable {ok : Pth → Bool} {D : List Pth} {d m c : Nat} {R : TT}
end
section
variable {P : Program} {S : Sums}
def syGoN (P:Program) (S:Sums) (R:Nat→Prop) (n:Nat) (ops:Array Oper) (base:Nat):List Oper→List Oper→Nat→Env→AH→List (Nat×AO)→(Env→AH→Prop)→Prop
 | [],rest,i,t,h,pend,K=>syGo0 P S n ops base rest i t h pend K
 | o::r,rest,i,t,h,pend,K=>syDSK P S R n ops base i o t h pend fun t' h' pend'=>syGoN P S R n ops base r rest (i+1) t' h' pend' K
def SSN (P:Program) (R:Nat→Prop) (n m:Nat) (ops:Array Oper) (ss:List DS):Prop :=
 ∀j o s s',j<m→ops[j]? = some o→ss[j]? = some s→ss[j+1]? = some s'→StepOK P R n ops o s.t s.h s'.t s'.h
theorem syGo0_len {n:Nat} {ops:Array Oper} {base:Nat} {K:Env→AH→Prop}:∀ {l:List Oper} {i:Nat} {t:Env} {h:AH} {pend:List (Nat×AO)} {acc:List DS},syGo0 P S n ops base l i t h pend K →
  syGo P S n ops base l i t h pend acc fun ss t' h'=>(∃suf,ss=acc++({ t:=t,h:=h,pend:=pend }:DS)::suf∧suf.length=l.length)∧K t' h'
 | [],i,t,h,pend,acc,hw=>⟨⟨[],rfl,rfl⟩,hw⟩
 | o::r,i,t,h,pend,acc,hw=>syDS_mono (fun t' h' pend' hk=>by
   refine syGo_mono (fun ss t2 h2 hx=>?_) (syGo0_len (l:=r) (acc:=acc++[({ t:=t,h:=h,pend:=pend }:DS)]) hk)
   obtain ⟨⟨suf,e1,e2⟩,hK⟩:=hx
   exact ⟨⟨({ t:=t',h:=h',pend:=pend' }:DS)::suf,by rw [e1];simp,by simp [e2]⟩,hK⟩) hw
theorem syGoN_go {R:Nat→Prop} {n m:Nat} {ops:Array Oper} {base:Nat} {rest:List Oper}:∀ {l:List Oper} {i:Nat} {t:Env} {h:AH} {pend:List (Nat×AO)} {acc:List DS} {K:Env→AH→Prop},(∃pre,ops.toList=pre++(l++rest)∧pre.length=i)→i+l.length=m→acc.length=i →
  SSN P R n m ops (acc++[({ t:=t,h:=h,pend:=pend }:DS)])→syGoN P S R n ops base l rest i t h pend K →
  syGo P S n ops base (l++rest) i t h pend acc fun ss t' h'=>(SSN P R n m ops ss∧ss.length=ops.size+1)∧K t' h'
 | [],i,t,h,pend,acc,K,⟨pre,hp,hl⟩,hm,ha,hs,hw=>by
  refine syGo_mono (fun ss t' h' hx=>?_) (syGo0_len (acc:=acc) hw)
  obtain ⟨⟨suf,e1,e2⟩,hK⟩:=hx
  have hz:ops.size=i+rest.length:=by rw [←Array.length_toList,hp];simp [hl]
  refine ⟨⟨?_,by rw [e1];simp [ha,e2,hz];omega⟩,hK⟩
  intro j oj s s' hj hoj hsj hsj'
  have hm':i=m:=by simpa using hm
  have e3:ss=(acc++[({ t:=t,h:=h,pend:=pend }:DS)])++suf:=by rw [e1];simp
  refine hs j oj s s' hj hoj ?_ ?_
  ·rw [e3,List.getElem?_append_left (by simp;omega)] at hsj;exact hsj
  ·rw [e3,List.getElem?_append_left (by simp;omega)] at hsj';exact hsj'
 | o::r,i,t,h,pend,acc,K,⟨pre,hp,hl⟩,hm,ha,hs,hw=>by
  refine syDS_mono (fun t' h' pend' hk=>?_) (syDSK_step hw)
  refine syGoN_go (l:=r) ⟨pre++[o],by rw [hp];simp,by simp [hl]⟩ (by simp at hm;omega) (by simp [ha]) ?_ hk.2
  intro j oj s s' hjm hoj hsj hsj'
  by_cases hj:j+1<acc.length+1
  ·refine hs j oj s s' hjm hoj ?_ ?_
   ·rw [List.getElem?_append_left (by simp;omega)] at hsj;exact hsj
   ·rw [List.getElem?_append_left (by simp;omega)] at hsj';exact hsj'
  ·have hjl:j+1<((acc++[({ t:=t,h:=h,pend:=pend }:DS)])++[({ t:=t',h:=h',pend:=pend' }:DS)]).length:=(List.getElem?_eq_some_iff.1 hsj').1
   simp at hjl
   have hje:j=acc.length:=by omega
   subst hje
   have h1:s={ t:=t,h:=h,pend:=pend }:=by
    rw [List.getElem?_append_left (by simp),List.getElem?_append_right (Nat.le_refl _)] at hsj
    simpa using hsj.symm
   have h2:s'={ t:=t',h:=h',pend:=pend' }:=by
    rw [List.getElem?_append_right (by simp)] at hsj'
    simpa using hsj'.symm
   have h3:oj=o:=by
    rw [←Array.getElem?_toList,hp,ha,←hl,List.getElem?_append_right (Nat.le_refl _)] at hoj
    simpa using hoj.symm
   subst h1;subst h2;subst h3
   exact hk.1
theorem SSN.chain {R:Nat→Prop} {n m:Nat} {ops:Array Oper} {ss:List DS} (hm:m≤ops.size) (hs:SSN P R n m ops ss) (hl:ss.length=ops.size+1):∀(b a:Nat),a≤b→b≤m→∀sa sb,ss[a]? = some sa→ss[b]? = some sb→∀id,R id→sb.h.get id=sa.h.get id
 | 0,a,hab,_,sa,sb,h1,h2,id,hr=>by
  obtain rfl:a=0:=by omega
  rw [h1] at h2;cases h2;rfl
 | b+1,a,hab,hb,sa,sb,h1,h2,id,hr=>by
  by_cases he:a=b+1
  ·subst he;rw [h1] at h2;cases h2;rfl
  ·have h3:ss[b]? = some ss[b]:=List.getElem?_eq_getElem (by omega)
   have h4:ops[b]? = some ops[b]:=Array.getElem?_eq_getElem (by omega)
   rw [(hs b _ _ _ (by omega) h4 h3 h2).keep id hr]
   exact hs.chain hm hl b a (by omega) (by omega) sa _ h1 h3 id hr
theorem sameAll_goodN {R:Nat→Prop} {Rc:Rec} {n m:Nat} {ops:Array Oper} {ss:List DS} (hm:m≤ops.size) (hs:SSN P R n m ops ss) (hl:ss.length=ops.size+1):∀(prs:List (Nat×Nat)),(∀p,p∈prs→GoodP P ops p)→(∀p,p∈prs→p.2<m)→sameAll P Rc n ops ss prs=true
 | [],_,_=>rfl
 | (j,i)::r,hg,hb=>by
  obtain ⟨hji,oj,oi,hoj,hoi,hcl⟩:=hg (j,i) (List.mem_cons_self ..)
  have hb1:i<m:=hb (j,i) (List.mem_cons_self ..)
  simp only at hji hoj hoi
  have hi:i<ops.size:=(Array.getElem?_eq_some_iff.1 hoi).1
  have g1:ss[i]? = some ss[i]:=List.getElem?_eq_getElem (by omega)
  have g2:ss[i+1]? = some ss[i+1]:=List.getElem?_eq_getElem (by omega)
  have g3:ss[j]? = some ss[j]:=List.getElem?_eq_getElem (by omega)
  have g4:ss[j+1]? = some ss[j+1]:=List.getElem?_eq_getElem (by omega)
  refine sameAll_one hoi g1 g2 g3 g4 ?_ (sameAll_goodN hm hs hl r (fun p hp=>hg p (List.mem_cons_of_mem _ hp)) fun p hp=>hb p (List.mem_cons_of_mem _ hp))
  rcases hcl with ⟨c1,c2⟩ | ⟨c1,c2⟩
  ·rw [if_pos (by rw [c1];rfl)]
   exact sameAt_low hoi (hs i _ _ _ hb1 hoi g1 g2) c1 fun id hr=>(hs.chain hm hl i j (by omega) (by omega) _ _ g3 g1 id hr).symm
  ·rw [if_neg (by rw [c1];decide)]
   exact sameAt_low hoj (hs j _ _ _ (by omega) hoj g3 g4) c2 fun id hr=>hs.chain hm hl (i+1) j (by omega) (by omega) _ _ g3 g2 id hr
def lowFree (m:Nat) (o:Option (List (Nat×Nat))):Bool:=match o with
 | some prs=>prs.all fun p=>Nat.blt p.2 m
 | none=>false
theorem syDraw.keepN {n:Nat} {l:List Oper} {t:Env} {h:AH} {K:Env→AH→Prop} (m:Nat) (R:Nat→Prop) (hf:P.follows .mixedOrders=true) (hs:lowFree m (statGo P l.toArray l 0 [] [] [])=true) (hm:Nat.ble m l.length=true)
  (hw:syGoN P S R n l.toArray h.nx (l.take m) (l.drop m) 0 t { tr:=h.tr,nx:=h.nx+l.length } [] K):syDraw P S n l.toArray t h K ⟨⟩ ⟨⟩ ⟨⟩ ⟨⟩:=by
 rw [Nat.ble_eq] at hm
 cases hp:statGo P l.toArray l 0 [] [] [] with
 | none=>rw [hp] at hs;cases hs
 | some prs =>
  rw [hp] at hs
  have hb:∀p,p∈prs→p.2<m:=fun p hm=>by
   have:=List.all_eq_true.1 hs p hm
   rw [Nat.blt_eq] at this
   exact this
  refine syDraw.go prs hf hp ?_
  have h1:=syGoN_go (P:=P) (S:=S) (R:=R) (m:=m) (ops:=l.toArray) (l:=l.take m) (rest:=l.drop m) (i:=0) (acc:=[]) ⟨[],by simp,rfl⟩ (by rw [List.length_take];omega) rfl (fun j o s s' _ _ _ h2=>by simp at h2) hw
  rw [List.take_append_drop] at h1
  refine syGo_mono (fun ss t' h' hk=>⟨?_,hk.2⟩) h1
  exact sameAll_goodN (by simpa using hm) hk.1.1 hk.1.2 prs (statGo_good l 0 [] [] [] prs rfl (by simp) (fun p hp=>by simp at hp) hp) hb
theorem syGoN_nil (R:Nat→Prop) (n:Nat) (ops:Array Oper) (base:Nat) (rest:List Oper) (i:Nat) (t:Env) (h:AH) (pend:List (Nat×AO)) (K:Env→AH→Prop):syGoN P S R n ops base [] rest i t h pend K=syGo0 P S n ops base rest i t h pend K:=propext Iff.rfl
theorem syGoN_cons (R:Nat→Prop) (n:Nat) (ops:Array Oper) (base:Nat) (o:Oper) (r rest:List Oper) (i:Nat) (t:Env) (h:AH) (pend:List (Nat×AO)) (K:Env→AH→Prop):syGoN P S R n ops base (o::r) rest i t h pend K=syDSK P S R n ops base i o t h pend fun t' h' pend'=>syGoN P S R n ops base r rest (i+1) t' h' pend' K:=rfl
theorem syDS_some (n:Nat) (ops:Array Oper) (base i:Nat) (dst:Option Tmp) (op:Op) (ty:TypeId) (pos:String) (after:Array Edge) (g:Nat×Bool) (t:Env) (h:AH) (pend:List (Nat×AO)) (K:Env→AH→List (Nat×AO)→Prop) :
  syDS P S n ops base i { dst,op,type:=ty,pos,after,guard:=some g } t h pend K=bnd (wantedA ops t { dst,op:=.move (.tmp 0),type:=ty,pos,after,guard:=some g }) (fun b=>ifB (.bool b)
   (clsK (clsOf P op)
    (bnd (allocA P (opnd t) op) (fun x=>syPut n t dst (x.2 (base+i)) fun t'=>K t' h (pend++[(base+i,x.1)])) ⟨⟩)
    (syO P S (opnd t) op (absorb pend h) fun v h'=>syPut n t dst v fun t'=>K t' h' [])
    (syO P S (opnd t) op h fun v _=>syPut n t dst v fun t'=>K t' h pend) ⟨⟩ ⟨⟩ ⟨⟩)
   (clsK (clsOf P op)
    (syPut n t dst (.tup []) fun t'=>K t' h pend)
    (syPut n t dst (.tup []) fun t'=>K t' (absorb pend h) [])
    (syPut n t dst (.tup []) fun t'=>K t' h pend) ⟨⟩ ⟨⟩ ⟨⟩) ⟨⟩ ⟨⟩) ⟨⟩:=by
 unfold syDS
 show clsK (clsOf P op) _ _ _ _ _ _=_
 generalize clsOf P op=c
 rcases c with _ | _ | _ | _ | c <;> rfl
end
attribute [go_sem ↓] syDS_some
attribute [go_sem ↓] syGoN_nil syGoN_cons
section
variable {α : Type}
end
/-! ### Trees of texts that are never changed -/
inductive Tp where
 | nil
 | nd (k v:List Nat) (l r:Tp)
section
variable {P : Program} {α : Type}
structure Gk (K:Nat→Nat) (h h':AH):Prop where
 nx:h.nx≤h'.nx
 get:∀j,j<h.nx→K j=0→h'.get j=h.get j
theorem Fr.gk {h h':AH} (f:Fr h h') (K:Nat→Nat):Gk K h h':=⟨f.nx,fun j hj _=>f.get j hj⟩
theorem Gk.refl (K:Nat→Nat) (h:AH):Gk K h h:=⟨Nat.le_refl _,fun _ _ _=>rfl⟩
theorem Gk.trans {K:Nat→Nat} {h1 h2 h3:AH} (a:Gk K h1 h2) (b:Gk K h2 h3):Gk K h1 h3:=⟨Nat.le_trans a.nx b.nx,fun j hj hk=>(b.get j (Nat.lt_of_lt_of_le hj a.nx) hk).trans (a.get j hj hk)⟩
theorem Gk.put {K:Nat→Nat} {h h':AH} (g:Gk K h h') {i:Nat} (hi:K i≠0∨h.nx≤i) (o:AO):Gk K h (h'.put i o):=⟨g.nx,fun j hj hk=>(AH.get_put_ne (by rcases hi with hi | hi <;> (intro hh;subst hh;omega))).trans (g.get j hj hk)⟩
def Fl (K:Nat→Nat) (z:Nat) (h:AH) (v:AV) (m:List AV):Prop :=
 (v=.nilsl∧m=[])∨∃id off n c cs o t,v=.sl id off n z c∧h.get id=some (.cells cs o t)∧id<h.nx∧K id=0∧(∀k,c=some k→n≤k)∧off+n*z≤cs.length∧(cs.drop off).take (n*z)=m
section
variable {K : Nat → Nat} {z : Nat} {h h' : AH} {v : AV} {m : List AV}
theorem Fl.gk (hb:Fl K z h v m) (g:Gk K h h'):Fl K z h' v m:=by
 rcases hb with h1 | ⟨id,off,n,c,cs,o,t,h1,h2,h3,h4,h5⟩
 ·exact .inl h1
 ·exact .inr ⟨id,off,n,c,cs,o,t,h1,(g.get id h3 h4).trans h2,Nat.lt_of_lt_of_le h3 g.nx,h4,h5⟩
theorem Fl.fr (hb:Fl K z h v m) (f:Fr h h'):Fl K z h' v m:=hb.gk (f.gk K)
theorem Fl.col {K':Nat→Nat} (hb:Fl K z h v m) (hk:∀j,j<h.nx→K j=0→K' j=0):Fl K' z h v m:=by
 rcases hb with h1 | ⟨id,off,n,c,cs,o,t,h1,h2,h3,h4,h5⟩
 ·exact .inl h1
 ·exact .inr ⟨id,off,n,c,cs,o,t,h1,h2,h3,hk id h3 h4,h5⟩
theorem Fl.one (hb:Fl K z h v m):sameAV 20 v v=true∧oneA v=true:=by
 rcases hb with ⟨rfl,rfl⟩ | ⟨id,off,n,c,cs,o,t,rfl,_⟩
 ·exact ⟨rfl,rfl⟩
 ·exact ⟨by simp [sameAV],rfl⟩
theorem Fl.len {t e:TypeId} (hb:Fl K z h v m) (ht:P.underlying t=some (.slice e)) (hz:0<z) {n:Nat} (hn:m.length=n*z) (g:AH):evLen P g #[t] v=some (.int .i64 (n:Nat)):=by
 rcases hb with ⟨rfl,rfl⟩ | ⟨id,off,k,c,cs,o,t',rfl,_,_,_,_,h6,h7⟩
 ·have:n=0:=by
   rcases Nat.mul_eq_zero.1 hn.symm with h | h <;> omega
  subst this
  simp [evLen,ht]
 ·have:k=n:=Nat.eq_of_mul_eq_mul_right hz (by rw [←hn,←h7,List.length_take,List.length_drop];omega)
  subst this
  simp [evLen,ht]
theorem Fl.at (hb:Fl K z h v m) (hz:0<z) {n i:Nat} (hn:m.length=n*z) (hi:i<n):∃id off c cs o t,v=.sl id off n z c∧h.get id=some (.cells cs o t)∧id<h.nx∧K id=0∧off+i*z+z≤cs.length∧(cs.drop (off+i*z)).take z=(m.drop (i*z)).take z∧∀j,j<z→cs[off+i*z+j]? = m[i*z+j]?:=by
 have hiz:i*z+z≤n*z:=by rw [←Nat.succ_mul];exact Nat.mul_le_mul_right z hi
 rcases hb with ⟨_,rfl⟩ | ⟨id,off,k,c,cs,o,t,h1,h2,h3,h4,h5,h6,h7⟩
 ·rcases Nat.mul_eq_zero.1 hn.symm with h | h <;> omega
 ·have:k=n:=Nat.eq_of_mul_eq_mul_right hz (by rw [←hn,←h7,List.length_take,List.length_drop];omega)
  subst this
  refine ⟨id,off,c,cs,o,t,h1,h2,h3,h4,by omega,?_,fun j hj=>?_⟩
  ·rw [←h7,List.drop_take,List.drop_drop,List.take_take]
   congr 1
   omega
  ·rw [←h7,List.getElem?_take_of_lt (by omega),List.getElem?_drop]
   congr 1
   omega
theorem Fl.first (hb:Fl K z h v m):∃n,m.length=n*z∧lenA v=some n∧firstA h z n v=some m:=by
 rcases hb with ⟨rfl,rfl⟩ | ⟨id,off,n,c,cs,o,t,rfl,h2,h3,h4,h5,h6,h7⟩
 ·exact ⟨0,by simp,rfl,rfl⟩
 ·exact ⟨n,by rw [←h7,List.length_take,List.length_drop];omega,rfl,by rw [firstA_sl h2 (Nat.le_refl _) (by omega),h7]⟩
theorem Fl.of {n0:Nat} (hb:Ez z n0 h v m) (hk:∀id o n c,v=.sl id o n z c→K id=0):Fl K z h v m:=by
 rcases hb with h1 | ⟨id,n,c,tx,h1,h2,h3,h4,h5,h6,h7⟩
 ·exact .inl h1
 ·exact .inr ⟨id,0,n,c,m,true,tx,h1,h2,h3,hk _ _ _ _ h1,fun k hk=>by rcases h6 with h6 | h6 <;> (rw [h6] at hk;cases hk);exact Nat.le_refl _,by omega,by rw [List.drop_zero,←h5,List.take_length]⟩
end
theorem Ez.app2 {z:Nat} {h0 h:AH} {v x:AV} {l m:List AV} {k:Nat} {st xt e:TypeId} {d:TypeDesc} {bt:Nat} (hu:P.underlying st=some (.slice e)) (hd:P.underlying xt=some d) (hni:notInt d=true) (hi:appI P e=some (z,bt)) (hz:0<z) (hb:Ez z h0.nx h v l) (hn:lenA x=some k) (hnew:firstA h z k x=some m) (hm:m.length=k*z) (hall:m.all oneA=true) (hf:Fr h0 h) (hl:(2*(l.length+m.length)+1000)*bt≤1099511627776) (hl2:l.length+m.length≤1099511627776) :
  ∃v' h',evAppend P h #[st,xt] v x=some (.val v' h')∧Fr h0 h'∧Ez z h0.nx h' v' (l++m)∧oneA v'=true∧h.nx≤h'.nx∧(∀j,j<h.nx→(∀id o n c,v=.sl id o n z c→j≠id)→h'.get j=h.get j)∧((k=0∧v'=v)∨∃id n,v'=.sl id 0 n z none∧h.nx≤id):=by
 have hk:k≤m.length:=by rw [hm];exact Nat.le_mul_of_pos_right k hz
 rcases hb with ⟨rfl,rfl⟩ | ⟨id,n,c,tx,rfl,h2,h3,h4,h5,h6,h7⟩
 ·have hm':(2*(0+k)+1000)*bt≤(2*(0+m.length)+1000)*bt:=Nat.mul_le_mul_right _ (by omega)
  simp only [List.length_nil] at hl hl2
  rw [evAppend_eq (len:=0) (old:=[]) hu hd hni hi hn hnew rfl rfl hall (Nat.le_trans hm' hl) (by omega) rfl]
  by_cases hk0:k=0
  ·subst hk0
   have:m=[]:=List.length_eq_zero_iff.1 (by omega)
   subst this
   rw [if_pos rfl]
   exact ⟨_,_,rfl,hf,.inl ⟨rfl,rfl⟩,rfl,Nat.le_refl _,fun j _ _=>rfl,.inl ⟨rfl,rfl⟩⟩
  ·rw [if_neg hk0]
   exact ⟨_,_,rfl,hf.news _,.inr ⟨h.nx,k,none,false,rfl,AH.get_new_eq rfl,Nat.lt_succ_self _,hf.nx,hm,.inl rfl,.inl rfl⟩,rfl,Nat.le_succ _,fun j hj _=>AH.get_new_ne (Nat.ne_of_lt hj),.inr ⟨_,_,rfl,Nat.le_refl _⟩⟩
 ·have hnl:n≤l.length:=by rw [h5];exact Nat.le_mul_of_pos_right n hz
  have hold:firstA h z n (.sl id 0 n z c)=some l:=by
   rw [firstA_sl h2 (Nat.le_refl _) (by omega),List.drop_zero,←h5,List.take_length]
  have hm':(2*(n+k)+1000)*bt≤(2*(l.length+m.length)+1000)*bt:=Nat.mul_le_mul_right _ (by omega)
  rw [evAppend_eq (len:=n) hu hd hni hi hn hnew rfl hold hall (Nat.le_trans hm' hl) (by omega) rfl]
  by_cases hk0:k=0
  ·subst hk0
   have:m=[]:=List.length_eq_zero_iff.1 (by omega)
   subst this
   rw [if_pos rfl]
   exact ⟨_,_,rfl,hf,.inr ⟨id,n,c,tx,rfl,by rw [List.append_nil];exact h2,h3,h4,by rw [List.append_nil];exact h5,h6,by rw [List.append_nil];exact h7⟩,rfl,Nat.le_refl _,fun j _ _=>rfl,.inl ⟨rfl,rfl⟩⟩
  ·rw [if_neg hk0]
   have hlm:(l++m).length=(n+k)*z:=by rw [List.length_append,h5,hm,Nat.add_mul]
   have fin:∀(g:AH),Fr h0 g→g.nx=h.nx→(∀j,j≠id→g.get j=h.get j)→∃v' h',newCells g (l++m) false (fun id=>.sl id 0 (n+k) z none)=some (.val v' h')∧Fr h0 h'∧Ez z h0.nx h' v' (l++m)∧oneA v'=true∧h.nx≤h'.nx∧(∀j,j<h.nx→(∀id' o n' c',AV.sl id 0 n z c=.sl id' o n' z c'→j≠id')→h'.get j=h.get j)∧((k=0∧v'=.sl id 0 n z c)∨∃id n,v'=.sl id 0 n z none∧h.nx≤id):=fun g hg hgn hgo =>
    ⟨_,_,rfl,hg.news _,.inr ⟨g.nx,n+k,none,false,rfl,AH.get_new_eq rfl,Nat.lt_succ_self _,hg.nx,hlm,.inl rfl,.inl rfl⟩,rfl,by rw [←hgn];exact Nat.le_succ _,fun j hj hne=>(AH.get_new_ne (by omega)).trans (hgo j (hne _ _ _ _ rfl)),.inr ⟨_,_,rfl,by omega⟩⟩
   rcases h6 with rfl | rfl
   ·have ht0:tx=false:=by
     rcases h7 with h7 | ⟨_,h7⟩
     ·exact h7
     ·cases h7
    subst ht0
    simp only
    rw [if_pos (by simp [ownBlock,h2])]
    have ht:(textBlock h id||!(Nat.beq 0 0))=false:=by simp [textBlock,h2]
    rw [ht]
    exact fin _ (hf.del h4) rfl fun j hj=>by rw [AH.get_del,if_neg hj]
   ·simp only
    rw [if_pos (by omega)]
    exact fin _ hf rfl fun j _=>rfl
theorem Fl.own {z:Nat} {K:Nat→Nat} {h:AH} {v:AV} {m:List AV} {st e:TypeId} {bt:Nat} (hb:Fl K z h v m) (hu:P.underlying st=some (.slice e)) (hi:appI P e=some (z,bt)) (hz:0<z) (hall:m.all oneA=true) (hl:(2*m.length+1000)*bt≤1099511627776) (hl2:m.length≤1099511627776) :
  ∃v' h',evAppend P (h.new (.cells [] true true)) #[st,st] (.sl h.nx 0 0 z (some 0)) v=some (.val v' h')∧Fr h h'∧Ez z h.nx h' v' m∧oneA v'=true:=by
 obtain ⟨k,h1,h2,h3⟩:=(hb.fr (Fr.new h (.cells [] true true))).first
 obtain ⟨v',h',e1,e2,e3,e4,_⟩:=Ez.app2 (h0:=h) (l:=[]) hu hu (by rfl) hi hz (.inr ⟨h.nx,0,some 0,true,rfl,AH.get_new_eq rfl,Nat.lt_succ_self _,Nat.le_refl _,by simp,.inr rfl,.inr ⟨rfl,rfl⟩⟩) h2 h3 h1 hall (Fr.new _ _) (by simpa using hl) (by simpa using hl2)
 rw [List.nil_append] at e3
 exact ⟨v',h',e1,e2,e3,e4⟩
/-! ### Slices whose elements are told by what their cells are -/
def Sl (K:Nat→Nat) (z:Nat) (E:List AV→α→Prop) (h:AH) (v:AV) (l:List α):Prop :=
 (v=.nilsl∧l=[])∨∃id off c cs o t,v=.sl id off l.length z c∧h.get id=some (.cells cs o t)∧id<h.nx∧K id=0∧(∀k,c=some k→l.length≤k)∧off+l.length*z≤cs.length∧∀(i:Nat) (x:α),l[i]? = some x→E ((cs.drop (off+i*z)).take z) x
section
variable {K : Nat → Nat} {z : Nat} {E : List AV → α → Prop} {h h' : AH} {v : AV} {l : List α}
theorem Sl.gk {E':List AV→α→Prop} (hb:Sl K z E h v l) (g:Gk K h h') (hE:∀cs x,E cs x→E' cs x):Sl K z E' h' v l:=by
 rcases hb with h1 | ⟨id,off,c,cs,o,t,h1,h2,h3,h4,h5,h6,h7⟩
 ·exact .inl h1
 ·exact .inr ⟨id,off,c,cs,o,t,h1,(g.get id h3 h4).trans h2,Nat.lt_of_lt_of_le h3 g.nx,h4,h5,h6,fun i x hi=>hE _ _ (h7 i x hi)⟩
theorem Sl.col {K':Nat→Nat} {E':List AV→α→Prop} (hb:Sl K z E h v l) (hk:∀j,j<h.nx→K j=0→K' j=0) (hE:∀cs x,E cs x→E' cs x):Sl K' z E' h v l:=by
 rcases hb with h1 | ⟨id,off,c,cs,o,t,h1,h2,h3,h4,h5,h6,h7⟩
 ·exact .inl h1
 ·exact .inr ⟨id,off,c,cs,o,t,h1,h2,h3,hk id h3 h4,h5,h6,fun i x hi=>hE _ _ (h7 i x hi)⟩
theorem Sl.one (hb:Sl K z E h v l):sameAV 20 v v=true∧oneA v=true:=by
 rcases hb with ⟨rfl,rfl⟩ | ⟨id,off,c,cs,o,t,rfl,_⟩
 ·exact ⟨rfl,rfl⟩
 ·exact ⟨by simp [sameAV],rfl⟩
theorem Sl.len {t e:TypeId} (hb:Sl K z E h v l) (ht:P.underlying t=some (.slice e)) (g:AH):evLen P g #[t] v=some (.int .i64 (l.length:Nat)):=by
 rcases hb with ⟨rfl,rfl⟩ | ⟨id,off,c,cs,o,t',rfl,_⟩
 ·simp [evLen,ht]
 ·simp [evLen,ht]
theorem Sl.at (hb:Sl K z E h v l) {i:Nat} {x:α} (hi:l[i]? = some x):∃id off c cs o t,v=.sl id off l.length z c∧h.get id=some (.cells cs o t)∧id<h.nx∧K id=0∧off+i*z+z≤cs.length∧E ((cs.drop (off+i*z)).take z) x∧∀j,j<z→cs[off+i*z+j]? = ((cs.drop (off+i*z)).take z)[j]?:=by
 have hil:i<l.length:=(List.getElem?_eq_some_iff.1 hi).1
 have hiz:i*z+z≤l.length*z:=by rw [←Nat.succ_mul];exact Nat.mul_le_mul_right z hil
 rcases hb with ⟨_,rfl⟩ | ⟨id,off,c,cs,o,t,h1,h2,h3,h4,h5,h6,h7⟩
 ·simp at hi
 ·exact ⟨id,off,c,cs,o,t,h1,h2,h3,h4,by omega,h7 i x hi,fun j hj=>by rw [List.getElem?_take_of_lt hj,List.getElem?_drop]⟩
theorem Sl.shape (hb:Sl K z E h v l):(v=.nilsl∧l=[])∨∃a o c,v=.sl a o l.length z c:=by
 rcases hb with h1 | ⟨id,off,c,cs,o,t,h1,_⟩
 ·exact .inl h1
 ·exact .inr ⟨_,_,_,h1⟩
theorem Sl.from {t e:TypeId} {m:Nat} (hb:Sl K z E h v l) (ht:P.underlying t=some (.slice e)) (he:tsize P e=some z) (hm:m≤l.length) :
  ∃v',(∀g,evSlice P g t v (some (.int .i64 (m:Nat))) none none=some v')∧Sl K z E h v' (l.drop m):=by
 have hu:upTo ((m:Nat):Int) l.length=some m:=by
  show (if m≤l.length then some m else none)=_
  rw [if_pos hm]
 rcases hb with ⟨rfl,rfl⟩ | ⟨id,off,c,cs,o,tx,rfl,h2,h3,h4,h5,h6,h7⟩
 ·obtain rfl:m=0:=by simpa using hm
  exact ⟨.nilsl,fun g=>by simp [evSlice,ht,he,boundsA,boundA,upTo],.inl ⟨rfl,rfl⟩⟩
 ·refine ⟨.sl id (off+m*z) (l.length-m) z (c.map (· - m)),fun g=>?_,.inr ⟨id,off+m*z,c.map (· - m),cs,o,tx,by rw [List.length_drop],h2,h3,h4,fun k hk=>?_,?_,fun i x hi=>?_⟩⟩
  ·cases c <;> simp [evSlice,ht,he,boundsA,boundA,hu]
  ·rw [List.length_drop]
   cases c with
   | none=>cases hk
   | some c0 =>
    have:=h5 c0 rfl
    simp only [Option.map_some,Option.some.injEq] at hk
    omega
  ·have e1:l.length*z=m*z+(l.length-m)*z:=by rw [←Nat.add_mul];congr 1;omega
   rw [List.length_drop];omega
  ·rw [List.getElem?_drop] at hi
   have:=h7 _ _ hi
   rw [Nat.add_mul] at this
   rw [Nat.add_assoc]
   exact this
end
/-! ### Lists of cells, some for each -/
theorem flat_len (f:α→List AV) (z:Nat) (hf:∀a,(f a).length=z):∀l:List α,(l.flatMap f).length=l.length*z
 | []=>by simp
 | a::l=>by
  rw [List.flatMap_cons,List.length_append,hf,flat_len f z hf l,List.length_cons,Nat.succ_mul];omega
theorem flat_at (f:α→List AV) (z:Nat) (hf:∀a,(f a).length=z):∀ {l:List α} {i:Nat} {a:α},l[i]? = some a→((l.flatMap f).drop (i*z)).take z=f a∧∀j,j<z→(l.flatMap f)[i*z+j]? = (f a)[j]?
 | [],i,a,h=>by simp at h
 | b::l,0,a,h=>by
  cases h
  rw [List.flatMap_cons]
  refine ⟨by rw [Nat.zero_mul,List.drop_zero,←hf b,List.take_left],fun j hj=>?_⟩
  rw [Nat.zero_mul,Nat.zero_add,List.getElem?_append_left (by rw [hf];exact hj)]
 | b::l,i+1,a,h=>by
  have ih:=flat_at f z hf (l:=l) (i:=i) (a:=a) (by simpa using h)
  have e:(i+1)*z=(f b).length+i*z:=by rw [hf,Nat.succ_mul];omega
  rw [List.flatMap_cons,e]
  refine ⟨by rw [←List.drop_drop,List.drop_left];exact ih.1,fun j hj=>?_⟩
  rw [Nat.add_assoc,List.getElem?_append_right (by omega),Nat.add_sub_cancel_left]
  exact ih.2 j hj
theorem syC_scope {S:Sums} (r:Option Nat) (fn n:Nat) (c:Code) (s:St) (Q:Ex→St→Prop):syC P S r fn n (.scope c) s Q=syC P S r fn n c s Q:=propext Iff.rfl
theorem syC_label {S:Sums} (r:Option Nat) (fn n:Nat) (l:Nat) (s:St) (Q:Ex→St→Prop):syC P S r fn n (.label l) s Q=Q .normal s:=propext Iff.rfl
attribute [go_sem] syC_scope syC_label
end
theorem oneM {v:AV}:oneA v=true→Go.Abs.oneA.match_1 (fun _=>Bool) v (fun _=>false) (fun _=>false) (fun _=>false) (fun _=>true)=true:=fun h=>h
open Go.Proofs
theorem vr_str {ρ ρ':Pm} {l:List Nat} {v:Value} (h:VR ρ' (.str l) v):VR ρ (.str l) v:=by
 cases h
 exact .str _
mutual
theorem VR.back {ρ ρ':Pm} (hle:ρ.le ρ'):∀ {a:AV} {v v0:Value},VR ρ a v0→VR ρ' a v→VR ρ a v
 | _,_,_,.junk _,_=>.junk _
 | _,_,_,.bool _,h=>by cases h;exact .bool _
 | _,_,_,.int _ _,h=>by cases h;exact .int _ _
 | _,_,_,.str _,h=>vr_str h
 | _,_,_,.nilptr,h=>by cases h;exact .nilptr
 | _,_,_,.ptr hp,h=>by
  cases h with
  | ptr hq=>rw [hle _ _ hp] at hq;cases hq;exact .ptr hp
 | _,_,_,.nilsl,h=>by cases h;exact .nilsl
 | _,_,_,.sl hp _ _ _ _,h=>by
  cases h with
  | sl hq hl ha hx hc=>rw [hle _ _ hp] at hq;cases hq;exact .sl hp hl ha hx hc
 | _,_,_,.nilmap,h=>by cases h;exact .nilmap
 | _,_,_,.map hp,h=>by
  cases h with
  | map hq=>rw [hle _ _ hp] at hq;cases hq;exact .map hp
 | _,_,_,.func hp hl hm,h=>by
  cases h with
  | func hq hl' hm'=>exact .func hq (hl.back hle hl') (hm.back hle hm')
 | _,_,_,.yld hp,h=>by
  cases h with
  | yld hq=>rw [hle _ _ hp] at hq;cases hq;exact .yld hp
 | _,_,_,.nilfunc,h=>by cases h;exact .nilfunc
 | _,_,_,.iface hv,h=>by
  cases h with
  | iface hv'=>exact .iface (hv.back hle hv')
 | _,_,_,.nilif,h=>by cases h;exact .nilif
 | _,_,_,.agg hv,h=>by
  cases h with
  | agg hv'=>exact .agg (hv.back hle hv')
 | _,_,_,.tup hv,h=>by
  cases h with
  | tup hv'=>exact .tup (hv.back hle hv')
theorem VRs.back {ρ ρ':Pm} (hle:ρ.le ρ'):∀ {l:List AV} {m m0:List Value},VRs ρ l m0→VRs ρ' l m→VRs ρ l m
 | _,_,_,.nil,h=>by cases h;exact .nil
 | _,_,_,.cons hv t,h=>by
  cases h with
  | cons hv' t'=>exact .cons (hv.back hle hv') (t.back hle t')
end
theorem MR.back {ρ ρ':Pm} (hle:ρ.le ρ'):∀ {l:List (AV×AV)} {m m0:List MapEntry},MR ρ l m0→MR ρ' l m→MR ρ l m
 | [],[],[],_,_=>trivial
 | (_,_)::_,_::_,_::_,⟨h1,h2,h3⟩,⟨k1,k2,k3⟩=>⟨h1.back hle k1,h2.back hle k2,MR.back hle h3 k3⟩
 | [],_::_,_,_,h=>h.elim
 | (_,_)::_,[],_,_,h=>h.elim
 | [],[],_::_,h,_=>h.elim
 | (_,_)::_,_::_,[],h,_=>h.elim
theorem OR.back {ρ ρ':Pm} (hle:ρ.le ρ') {p:Pl} {o:AO} {x x0:Option Obj} (h0:OR ρ p o x0) (h:OR ρ' p o x):OR ρ p o x:=by
 cases o with
 | cells cs own text =>
  obtain ⟨_,_,_,_,_,_,g0,_⟩:=h0
  obtain ⟨c,e,fr,h1,h2,h3,h4,h5⟩:=h
  exact ⟨c,e,fr,h1,h2,h3,fun i a hi=>by
   obtain ⟨v,hv,r⟩:=h4 i a hi
   obtain ⟨_,_,r0⟩:=g0 i a hi
   exact ⟨v,hv,r0.back hle r⟩,h5⟩
 | map es bs ck =>
  obtain ⟨_,_,m0,_⟩:=h0
  obtain ⟨ces,h1,h2,h3,h4⟩:=h
  exact ⟨ces,h1,m0.back hle h2,h3,h4⟩
 | mit m since seen last=>cases m with
  | none=>exact h
  | some m =>
   obtain ⟨_,q0,hq0,_⟩:=h0
   obtain ⟨hz,q,hq,hx⟩:=h
   rw [hle _ _ hq0] at hq
   cases hq
   exact ⟨hz,q0,hq0,hx⟩
 | loop st pend fn t n params assign body d =>
  obtain ⟨tm0,_,_,_,e0,q0,hq0,_⟩:=h0
  obtain ⟨tmps,pd,fn,h1,h2,q,h3,h4⟩:=h
  rw [hle _ _ hq0] at h3
  cases h3
  refine ⟨tmps,pd,fn,h1,⟨h2.1,fun i a hi=>?_⟩,q0,hq0,h4⟩
  obtain ⟨v,hv,r⟩:=h2.2 i a hi
  obtain ⟨_,_,r0⟩:=e0.2 i a hi
  exact ⟨v,hv,r0.back hle r⟩
 | defs o=>exact h
 | sit s pos=>exact h
section
variable {P : Program} {ρ : Pm} {w : World} {K : Kp} {h : AH}
theorem Rel.room (hR:Rel K ρ h w) {id n z:Nat} {cs:List AV} {c:Option Nat} {cv:Value} (hg:h.get id=some (.cells cs true false)) (hl:cs.length=n*z) (hv:VR ρ (.sl id 0 n z c) cv) :
  ∃k,n≤k∧(∀m,c=some m→k=m)∧VR ρ (.sl id 0 n z (some k)) cv∧Rel K ρ (h.put id (.cells (cs++List.replicate (k*z-n*z) .junk) true false)) w:=by
 cases hv with
 | sl hp hlc ha hx hcc =>
 rename_i p ad cap
 refine ⟨cap,hlc,hcc,.sl hp hlc ha hx (fun m hm=>by cases hm;rfl),hR.change hg hp rfl rfl rfl rfl rfl rfl (fun _ _=>rfl) ?_⟩
 obtain ⟨q,c,e,fr,hq,hb,hsz,hlim,hget,hfr,htx,hK⟩:=hR.cells hg
 rw [hp] at hq;cases hq
 simp only [if_true] at hsz
 have hmul:n*z≤cap*z:=Nat.mul_le_mul_right _ hlc
 refine ⟨c,e,fr,hb,by simpa using hsz,?_,fun i a hi=>?_,hfr,htx⟩
 ·rw [List.length_append,List.length_replicate,hl]
  rcases hx with hx | hx
  ·subst hx
   omega
  ·omega
 ·by_cases hil:i<cs.length
  ·rw [List.getElem?_append_left hil] at hi
   exact hget i a hi
  ·rw [List.getElem?_append_right (by omega)] at hi
   have hlt:=(List.getElem?_eq_some_iff.1 hi).1
   rw [List.length_replicate] at hlt
   have ha:a=.junk:=by
    have:=(List.getElem?_eq_some_iff.1 hi).2
    rw [List.getElem_replicate] at this
    exact this.symm
   subst ha
   have hci:p.o+i<c.size:=by
    rcases hx with hx | hx
    ·subst hx;omega
    ·omega
   exact ⟨_,Array.getElem?_eq_getElem hci,.junk _⟩
theorem Rel.forgets {ρ':Pm} {h':AH} {w w':World} {id id' m z:Nat} {o:AO} {c':Option Nat} {new rest:List AV} {cv:Value} (hR:Rel K ρ h w) (hg:h.get id=some o) (hE:Ext h.nx ρ h'.nx ρ') (hR':Rel K ρ' h' w') (hv:VR ρ' (.sl id' 0 m z c') cv)
  (hg':h'.get id'=some (.cells (new++rest) true false)) (hid:id'=id∨h.nx≤id') (hk:∀j,j<h.nx→j≠id→h'.get j=h.get j) (hnew:∀a∈new,∃v,VR ρ a v) :
  CallPost K h ρ (.sl h.nx 0 m z none) ((h.del id).new (.cells new true false)) cv w':=by
 cases hv with
 | sl hp hlc ha hx hcc =>
 rename_i p ad cap
 have hf:=hR.fresh _ (Nat.le_refl h.nx)
 have hle:ρ.le (ρ.put h.nx p):=Pm.le_put hf
 have hlt:∀j oj,h.get j=some oj→j<h.nx:=fun j oj hj=>by
  rcases Nat.lt_or_ge j h.nx with hh | hh
  ·exact hh
  ·obtain ⟨q,hq,_⟩:=hR.obj j oj hj
   rw [hR.fresh j hh] at hq
   cases hq
 have hget:∀j oj,((h.del id).new (.cells new true false)).get j=some oj→(j=h.nx∧oj=.cells new true false)∨(j<h.nx∧j≠id∧h.get j=some oj):=by
  intro j oj hj
  rw [AH.get_new] at hj
  by_cases e:j=h.nx
  ·rw [if_pos (by simpa using e)] at hj
   exact .inl ⟨e,(Option.some.inj hj).symm⟩
  ·rw [if_neg (by simpa using e),AH.get_del] at hj
   by_cases e2:j=id
   ·rw [if_pos e2] at hj;cases hj
   ·rw [if_neg e2] at hj;exact .inr ⟨hlt _ _ hj,e2,hj⟩
 have hne:∀j,j<h.nx→(ρ.put h.nx p) j=ρ j:=fun j hj=>by unfold Pm.put;rw [if_neg (Nat.ne_of_lt hj)]
 refine ⟨ρ.put h.nx p,Ext.put hf,.sl (Pm.put_self _ _ _) hlc ha hx (fun n hn=>by cases hn),⟨hR'.os,hR'.tape,hR'.output,hR'.size,hR'.keep,fun j hj=>?_,fun j oj hj=>?_,?_⟩⟩
 ·have hj':h.nx+1≤j:=hj
  unfold Pm.put
  rw [if_neg (by omega)]
  exact hR.fresh j (by omega)
 ·rcases hget j oj hj with ⟨rfl,rfl⟩ | ⟨h1,h2,h3⟩
  ·obtain ⟨q,hq,⟨c,e,fr,g1,g2,g3,g4,g5,g6⟩,g7,g8⟩:=hR'.obj id' _ hg'
   rw [hp] at hq;cases hq
   refine ⟨p,Pm.put_self _ _ _,⟨c,e,fr,g1,g2,by rw [List.length_append] at g3;omega,fun i a hi=>?_,g5,g6⟩,g7,g8⟩
   have hil:=(List.getElem?_eq_some_iff.1 hi).1
   obtain ⟨v,hv,r⟩:=g4 i a (by rw [List.getElem?_append_left hil];exact hi)
   obtain ⟨v0,r0⟩:=hnew a (List.mem_of_getElem? hi)
   exact ⟨v,hv,(r0.back hE.le r).mono hle⟩
  ·obtain ⟨q,hq,g2,g3,g4⟩:=hR.obj j oj h3
   obtain ⟨q',hq',k2,k3,k4⟩:=hR'.obj j oj ((hk j h1 h2).trans h3)
   rw [hE.old j h1,hq] at hq'
   cases hq'
   exact ⟨q,(hne j h1).trans hq,(g2.back hE.le k2).mono hle,k3,k4⟩
 ·intro i j oi oj pi pj hi hj hoi hoj hpi hpj hb
  rcases hget i oi hi with ⟨rfl,rfl⟩ | ⟨h1,h2,h3⟩ <;> rcases hget j oj hj with ⟨rfl,rfl⟩ | ⟨k1,k2,k3⟩
  ·rfl
  ·exfalso
   rw [Pm.put_self] at hpi;cases hpi
   rw [hne j k1] at hpj
   have:=hR'.inj id' j _ oj p pj hg' ((hk j k1 k2).trans k3) rfl hoj hp (by rw [hE.old j k1];exact hpj) hb
   rcases hid with e | e <;> omega
  ·exfalso
   rw [Pm.put_self] at hpj;cases hpj
   rw [hne i h1] at hpi
   have:=hR'.inj i id' oi _ pi p ((hk i h1 h2).trans h3) hg' hoi rfl (by rw [hE.old i h1];exact hpi) hp hb
   rcases hid with e | e <;> omega
  ·rw [hne i h1] at hpi
   rw [hne j k1] at hpj
   exact hR.inj i j oi oj pi pj h3 k3 hoi hoj hpi hpj hb
theorem sumMv_ok {S:Sums} (hS:SumsOK P S) {f:FuncId} {id n z m:Nat} {c:Option Nat} {cs new ag:List AV} {cargs:Array Value} (hR:Rel K ρ h w) (hg:h.get id=some (.cells cs true false)) (hl:cs.length=n*z)
  (hv:VRs ρ (.sl id 0 n z c::ag) cargs.toList) (hnew:∀a∈new,∃v,VR ρ a v)
  (hrun:∀k,n≤k→(∀m,c=some m→k=m)→RnC P S f (.sl id 0 n z (some k)::ag) (h.put id (.cells (cs++List.replicate (k*z-n*z) .junk) true false)) fun v h'=>∃id' c' rest,v=.sl id' 0 m z c'∧h'.get id'=some (.cells (new++rest) true false)∧(id'=id∨h.nx≤id')∧∀j,j<h.nx→j≠id→h'.get j=h.get j) :
  CallRes P f cargs w (CallPost K h ρ (.sl h.nx 0 m z none) ((h.del id).new (.cells new true false))):=by
 obtain ⟨l⟩:=cargs
 cases hv with
 | cons h1 t =>
 obtain ⟨k,hk1,hk2,hk3,hk4⟩:=hR.room hg hl h1
 obtain ⟨q,v,h',hc,id',c',rest,rfl,r1,r2,r3⟩:=hrun k hk1 hk2
 refine ((evN_sound hS q).call K ρ _ w f _ _ _ h' hk4 (.cons hk3 t) hc).mono fun cv w' hp=>?_
 obtain ⟨ρ',e1,e2,e3⟩:=hp
 exact hR.forgets hg e1 e3 e2 r1 r2 r3 hnew
/-! ### Slices that do not overlap -/
noncomputable def sumOver (args:List AV) (h:AH):Option (AV×AH) :=
 match args with
 | [.sl a _ (_+1) _ _,.sl b _ (_+1) _ _]=>match h.get a,h.get b with
  | some (.cells _ true false),some (.cells _ true false)=>if a=b then none else some (.bool false,h)
  | _,_=>none
 | _=>none
theorem sumOver_ok {f:FuncId} {tS tR e:TypeId} (ht:P.underlying tS=some (.slice e)) {size:Nat} (hz:tsize P e=some size) (hE:ExtOK P f (Extern.SlicesOverlaps.overlaps #[tS,tS] #[tR])) {args:List AV} {cargs:Array Value} {v:AV} {h':AH} (hR:Rel K ρ h w) (hv:VRs ρ args cargs.toList) (hs:sumOver args h=some (v,h')):CallRes P f cargs w (CallPost K h ρ v h'):=by
 unfold sumOver at hs
 split at hs
 ·rename_i a ao la az ac b bo lb bz bc
  obtain ⟨cx,cy,rfl,h1,h2⟩:=args2 hv
  split at hs
  ·rename_i ca cb ga gb
   split at hs
   ·cases hs
   ·rename_i hab
    cases hs
    cases h1 with
    | sl hp1 hl1 ha1 hx1 _ =>
    rename_i p1 ad1 cap1
    cases h2 with
    | sl hp2 hl2 ha2 hx2 _ =>
    rename_i p2 ad2 cap2
    rcases ha1 with hh | rfl
    ·omega
    rcases ha2 with hh | rfl
    ·omega
    obtain ⟨q1,c1,e1,fr1,hq1,hb1,_,_,_,_,t1,_⟩:=hR.cells ga
    rw [hp1] at hq1;cases hq1
    obtain ⟨q2,c2,e2,fr2,hq2,hb2,_,_,_,_,t2,_⟩:=hR.cells gb
    rw [hp2] at hq2;cases hq2
    obtain ⟨rfl,s1,o1⟩:=t1 rfl rfl
    obtain ⟨rfl,s2,o2⟩:=t2 rfl rfl
    refine callRes_ext hE (Lib.run_overlaps_apart w tS tR e ht size (fun w=>run_sizeOf' hz) _ _ _ _ _ _ (fun hh=>hab (hR.inj a b _ _ _ _ ga gb rfl rfl hp1 hp2 hh)) e1 e2 c1.size c2.size ?_ ?_ (by omega) ?_ ?_) ⟨ρ,Ext.refl _ _,.bool _,hR⟩
    ·simp [World.shape?,hb1]
    ·simp [World.shape?,hb2]
    ·simp [World.frozen?,hb1]
    ·simp [World.frozen?,hb1]
  ·cases hs
 ·cases hs
end
end Go.Abs
end