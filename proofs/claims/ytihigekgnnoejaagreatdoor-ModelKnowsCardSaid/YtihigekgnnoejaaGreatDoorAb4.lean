/- The abstract layer, parts 22 to 31. Conditions: none. -/
import Derived.Test.YtihigekgnnoejaaGreatDoorAb3
import Derived.Lib.Bytealg
import Derived.Laws.Externs
import Derived.Sort.KeysCollected
import Derived.Laws.AppendOwn
import Derived.Sort.Walk0
set_option linter.unusedVariables false
set_option linter.unusedSimpArgs false
section
namespace Go.Abs
open Go
section
variable {P : Program} {R : Rec} {n : Nat} {ops : Array Oper} {base : Nat} {D : Nat → DS} {prs : List (Nat × Nat)} {M : Nat → Nat → Bool} {K : Kp} {ρ0 : Pm} {ds0 : List Deferred}
structure Inv (P:Program) (n:Nat) (ops:Array Oper) (base:Nat) (D:Nat→DS) (M:Nat→Nat→Bool) (K:Kp) (ρ0:Pm) (ds0:List Deferred) (X:Nat→Bool) (p:Nat) (ρ:Pm) (a:Act) (w:World):Prop where
 pm:p≤ops.size
 closed:∀j b,j<ops.size→X j=true→M j b=true→X b=true
 eff:∀e o,ops[e]? = some o→clsOf P o.op=3→(X e=true↔e<p)
 canon:(D p).pend=[]
 past:p=0∨∃q o,p=q+1∧ops[q]? = some o∧clsOf P o.op=3
 size:a.tmps.size=n
 env:∀x v,envAt ops D X x ops.size=some v→∃cv,a.tmps[x]? = some cv∧VR ρ v cv
 frame:Framed K ρ (D p).h w (fun id ob=>∃j,X j=true∧p≤j∧j<ops.size∧id=base+j∧LaysAt P ops D j ob)
 later:∀j,j<ops.size→X j=false→ρ (base+j)=none
 nx:base+ops.size≤(D p).h.nx
 ext:Ext base ρ0 (D p).h.nx ρ
 defers:a.defers=ds0
def addX (X:Nat→Bool) (i:Nat):Nat→Bool:=fun j=>X j||Nat.beq j i
theorem addX_self {X:Nat→Bool} {i:Nat}:addX X i i=true:=by simp [addX]
theorem addX_ne {X:Nat→Bool} {i j:Nat} (h:j≠i):addX X i j=X j:=by simp [addX,nbeq,h]
theorem addX_of {X:Nat→Bool} {i j:Nat} (h:X j=true):addX X i j=true:=by simp [addX,h]
structure Up (ops:Array Oper) (M:Nat→Nat→Bool) (X:Nat→Bool) (i:Nat) (o:Oper):Prop where
 op:ops[i]? = some o
 no:X i=false
 pre:∀b,M i b=true→X b=true
 post:∀j,j<ops.size→X j=true→M j i=false
theorem agree (hS:Stat P ops prs M) (hst:Steps P R n ops base D) {X:Nat→Bool} {i:Nat} {o:Oper} (hU:Up ops M X i o) {x:Nat} (hx:x∈o.looksAt ops):envAt ops D X x ops.size=(D i).t.get x:=by
 have hi:i<ops.size:=(Array.getElem?_eq_some_iff.1 hU.op).1
 rw [envAt_stop ops.size (i:=i) (by omega),envAt_text hst i (by omega)]
 ·intro j hj hd
  cases hoj:ops[j]? with
  | none=>simp [hoj] at hd
  | some oj =>
   simp only [hoj,Option.bind_some] at hd
   rcases hS.apart j i oj o hj hoj hU.op with h1 | ⟨h1,_⟩
   ·exact hU.pre j h1
   ·exact absurd hx ((Oper.apart_spec h1).1 x hd)
 ·intro j hj hlt hd
  by_cases e:j=i
  ·rw [e];exact hU.no
  ·cases hoj:ops[j]? with
   | none=>simp [hoj] at hd
   | some oj =>
    simp only [hoj,Option.bind_some] at hd
    cases hX:X j with
    | false=>rfl
    | true =>
     rcases hS.apart i j o oj (by omega) hU.op hoj with h1 | ⟨h1,_⟩
     ·rw [hU.post j hlt hX] at h1;cases h1
     ·exact absurd hx ((Oper.apart_spec h1).2.2 x hd)
theorem env_step (hS:Stat P ops prs M) (hst:Steps P R n ops base D) {X:Nat→Bool} {i:Nat} {o:Oper} (hU:Up ops M X i o) {ρ ρ':Pm} {a:Act} (hle:ρ.le ρ') (hsize:a.tmps.size=n)
  (henv:∀x v,envAt ops D X x ops.size=some v→∃cv,a.tmps[x]? = some cv∧VR ρ v cv) {v:AV} {cv:Value} (hv:VR ρ' v cv) (hd:∀d,o.dst=some d→d<n∧(D (i+1)).t.get d=some v) :
  (a.put o.dst cv).tmps.size=n∧∀x v,envAt ops D (addX X i) x ops.size=some v→∃cv',(a.put o.dst cv).tmps[x]? = some cv'∧VR ρ' v cv':=by
 have hi:i<ops.size:=(Array.getElem?_eq_some_iff.1 hU.op).1
 have hother:∀x,o.dst≠some x→envAt ops D (addX X i) x ops.size=envAt ops D X x ops.size:=fun x hx =>
  envAt_congr ops.size fun j hj hdj=>addX_ne fun e=>by
   subst e
   rw [hU.op] at hdj
   exact hx (by simpa using hdj)
 cases hdst:o.dst with
 | none =>
  refine ⟨hsize,fun x u hu=>?_⟩
  rw [hother x (by rw [hdst];simp)] at hu
  obtain ⟨cu,h1,h2⟩:=henv x u hu
  exact ⟨cu,h1,h2.mono hle⟩
 | some d =>
  obtain ⟨hdn,hdg⟩:=hd d hdst
  refine ⟨by simp [Act.put,hsize],fun x u hu=>?_⟩
  by_cases e:x=d
  ·subst e
   refine ⟨cv,by simp [Act.put,hsize,hdn],?_⟩
   have:envAt ops D (addX X i) x ops.size=envAt ops D (addX X i) x (i+1):=envAt_stop ops.size (by omega) fun j hj hlt hdj=>by
    have hne:j≠i:=by omega
    rw [addX_ne hne]
    cases hoj:ops[j]? with
    | none=>simp [hoj] at hdj
    | some oj =>
     simp only [hoj,Option.bind_some] at hdj
     cases hX:X j with
     | false=>rfl
     | true =>
      rcases hS.apart i j o oj (by omega) hU.op hoj with h1 | ⟨h1,_⟩
      ·rw [hU.post j hlt hX] at h1;cases h1
      ·exact absurd hdj ((Oper.apart_spec h1).2.1 x hdst)
   rw [this] at hu
   simp only [envAt,addX_self,hU.op,Option.bind_some,hdst,and_self,if_true,hdg,Option.some.injEq] at hu
   subst hu
   exact hv
  ·rw [hother x (by rw [hdst];simpa using fun h=>e h.symm)] at hu
   obtain ⟨cu,h1,h2⟩:=henv x u hu
   exact ⟨cu,by simp only [Act.put];rw [Array.getElem?_setIfInBounds_ne (Ne.symm e)];exact h1,h2.mono hle⟩
theorem Inv.er (hS:Stat P ops prs M) (hst:Steps P R n ops base D) {X:Nat→Bool} {i p:Nat} {o:Oper} {ρ:Pm} {a:Act} {w:World} (hI:Inv P n ops base D M K ρ0 ds0 X p ρ a w) (hU:Up ops M X i o) :
  ER ρ (restr (D i).t (o.looksAt ops) .nil) n a.tmps :=
 ⟨hI.size,fun x v hx=>by
  obtain ⟨h1,h2⟩:=restr_get hx
  exact hI.env x v (by rw [agree hS hst hU h1];exact h2)⟩
theorem Inv.closed' {X:Nat→Bool} {i p:Nat} {o:Oper} {ρ:Pm} {a:Act} {w:World} (hI:Inv P n ops base D M K ρ0 ds0 X p ρ a w) (hU:Up ops M X i o):∀j b,j<ops.size→addX X i j=true→M j b=true→addX X i b=true:=by
 intro j b hj hX hM
 by_cases e:j=i
 ·subst e;exact addX_of (hU.pre b hM)
 ·rw [addX_ne e] at hX
  exact addX_of (hI.closed j b hj hX hM)
theorem step_low (hS:Stat P ops prs M) (hst:Steps P R n ops base D) {k:Nat} (hRec:RecOK P k R) {X:Nat→Bool} {i p:Nat} {o:Oper} {ρ:Pm} {a:Act} {w:World} (hI:Inv P n ops base D M K ρ0 ds0 X p ρ a w) (hU:Up ops M X i o)
  (hc:clsOf P o.op≤1) (hev:∃t2,evOp1 P R n ops o (restr (D i).t (o.looksAt ops) .nil) (D p).h=some (t2,(D p).h)∧∀d,o.dst=some d→t2.get d=(D (i+1)).t.get d)
  {cr:Option Nat} {Q:Exit→Act→World→Prop} {next:Act→World→Prop} (hn:∀ρ' a' w',Inv P n ops base D M K ρ0 ds0 (addX X i) p ρ' a' w'→next a' w'):wpOpIn (Wd cr) 0 P ops Q i next a w:=by
 have hi:i<ops.size:=(Array.getElem?_eq_some_iff.1 hU.op).1
 obtain ⟨t2,h1,h2⟩:=hev
 obtain ⟨Kx,hR,hgo⟩:=hI.frame.step fun id ob ⟨j,_,_,hj,he,_⟩=>by have:=hI.nx;omega
 refine evOp1_wp hRec hR (hI.er hS hst hU) hU.op h1 fun ρ' cv v w' hE hv hR' hp=>hn ρ' _ w' ?_
 obtain ⟨s1,s2⟩:=env_step hS hst hU hE.le hI.size hI.env hv fun d hd=>⟨((putA_get hp).2 d hd).1,by rw [←h2 d hd];exact ((putA_get hp).2 d hd).2⟩
 refine ⟨hI.pm,hI.closed' hU,fun e oe he hce=>?_,hI.canon,hI.past,s1,s2,(hgo ρ' _ w' hE hR').weaken fun id ob ⟨j,q1,q2,q3,q4,q5⟩=>?_,fun j hj hX=>?_,hI.nx,hI.ext.trans hE,?_⟩
 ·have hne:e≠i:=fun e'=>by subst e';rw [hU.op] at he;cases he;omega
  rw [addX_ne hne];exact hI.eff e oe he hce
 ·have hne:j≠i:=fun e'=>by
   subst e'
   obtain ⟨o',mk,r1,r2,_⟩:=q5
   rw [hU.op] at r1;cases r1;omega
  rw [addX_ne hne] at q1
  exact ⟨j,q1,q2,q3,q4,q5⟩
 ·have hne:j≠i:=fun e'=>by subst e';rw [addX_self] at hX;cases hX
  rw [addX_ne hne] at hX
  rw [hE.old _ (by have:=hI.nx;omega)]
  exact hI.later j hj hX
 ·cases hd:o.dst <;> exact hI.defers
theorem step_al (hS:Stat P ops prs M) (hst:Steps P R n ops base D) {X:Nat→Bool} {i p:Nat} {o:Oper} {ρ:Pm} {a:Act} {w:World} (hI:Inv P n ops base D M K ρ0 ds0 X p ρ a w) (hU:Up ops M X i o)
  (hc:clsOf P o.op=2) {cr:Option Nat} {Q:Exit→Act→World→Prop} {next:Act→World→Prop} (hn:∀ρ' a' w',Inv P n ops base D M K ρ0 ds0 (addX X i) p ρ' a' w'→next a' w'):wpOpIn (Wd cr) 0 P ops Q i next a w:=by
 have hi:i<ops.size:=(Array.getElem?_eq_some_iff.1 hU.op).1
 have her:=hI.er hS hst hU
 have hnone:=hI.later i hi hU.no
 have hpi:p≤i:=by
  rcases hI.past with h0 | ⟨q,oq,h0,h1,h2⟩
  ·omega
  ·rcases Nat.lt_trichotomy q i with h3 | h3 | h3
   ·omega
   ·subst h3;rw [hU.op] at h1;cases h1;omega
   ·exfalso
    have hXq:=(hI.eff q oq h1 h2).2 (by omega)
    rcases hS.apart i q o oq h3 hU.op h1 with h4 | ⟨_,h4⟩
    ·rw [hU.post q (Array.getElem?_eq_some_iff.1 h1).1 hXq] at h4;cases h4
    ·exact h4 ⟨h2,by omega⟩
 have heff:∀e oe,ops[e]? = some oe→clsOf P oe.op=3→(addX X i e=true↔e<p):=fun e oe he hce=>by
  have hne:e≠i:=fun e'=>by subst e';rw [hU.op] at he;cases he;omega
  rw [addX_ne hne];exact hI.eff e oe he hce
 have hlater:∀(ρ':Pm),(∀j,j<ops.size→j≠i→ρ' (base+j)=ρ (base+j))→∀j,j<ops.size→addX X i j=false→ρ' (base+j)=none:=fun ρ' hρ j hj hX=>by
  have hne:j≠i:=fun e'=>by subst e';rw [addX_self] at hX;cases hX
  rw [addX_ne hne] at hX
  rw [hρ j hj hne];exact hI.later j hj hX
 obtain ⟨_,⟨hw,hp,_⟩ | ⟨ob,mk,hw,ha,hp,_⟩⟩:=drawStep_al hc (hst i o hU.op)
 ·unfold wpOpIn
  simp only [hU.op]
  rw [if_neg (by rw [wantedA_sound her hw];simp)]
  refine ⟨fun _ _=>trivial,hn ρ _ w ?_⟩
  obtain ⟨s1,s2⟩:=env_step hS hst hU (Pm.le_refl ρ) hI.size hI.env undef_VR fun d hd=>(putA_get hp).2 d hd
  refine ⟨hI.pm,hI.closed' hU,heff,hI.canon,hI.past,s1,s2,hI.frame.weaken fun id ob ⟨j,q1,q2,q3,q4,q5⟩=>?_,hlater ρ fun _ _ _=>rfl,hI.nx,hI.ext,by cases hd:o.dst <;> exact hI.defers⟩
  have hne:j≠i:=fun e'=>by
   subst e'
   obtain ⟨o',mk,r1,r2,r3,_⟩:=q5
   rw [hU.op] at r1;cases r1
   rw [hw] at r3;cases r3
  rw [addX_ne hne] at q1
  exact ⟨j,q1,q2,q3,q4,q5⟩
 ·unfold wpOpIn
  simp only [hU.op]
  rw [if_pos (wantedA_sound her hw)]
  refine ⟨fun _ _=>trivial,?_⟩
  have hnd:∀c,o.op≠.defer c:=fun c hd=>by rw [hd] at hc;simp [clsOf] at hc
  rw [Oper.semAt_eq _ _ _ hnd]
  obtain ⟨hown,hal⟩:=allocA_sound (P:=P) (ρ:=ρ) (ty:=o.type) (dst:=o.dst) (pos:=o.pos) (after:=o.after) (guard:=o.guard) (opnd_sound her) ha
  obtain ⟨co,lim,cv,r1,r2⟩:=hal w
  have hle:ρ.le (ρ.put (base+i) ⟨w.heap.size,0,lim⟩):=Pm.le_put hnone
  obtain ⟨r3,r4⟩:=r2 _ (base+i) hle (Pm.put_self _ _ _)
  have hfr:=hI.frame.make (id:=base+i) (by have:=hI.nx;omega) hnone hown r3
  have hrun:(execOp a.eval o).run P w=.ok (.value cv) { w with heap:=w.heap.push co }:=r1
  rw [hrun]
  refine hn (ρ.put (base+i) ⟨w.heap.size,0,lim⟩) _ _ ?_
  obtain ⟨s1,s2⟩:=env_step hS hst hU hle hI.size hI.env r4 fun d hd=>(putA_get hp).2 d hd
  refine ⟨hI.pm,hI.closed' hU,heff,hI.canon,hI.past,s1,s2,hfr.weaken fun id ob' ⟨j,q1,q2,q3,q4,q5⟩=>?_,hlater _ fun j hj hne=>?_,hI.nx,⟨Pm.le_trans hI.ext.le hle,hI.ext.nx,fun id hid=>?_⟩,by cases hd:o.dst <;> exact hI.defers⟩
  ·by_cases e:j=i
   ·subst e
    obtain ⟨o',mk',t1,t2,t3,t4⟩:=q5
    rw [hU.op] at t1;cases t1
    rw [ha] at t4;cases t4
    exact .inr ⟨q4,rfl⟩
   ·rw [addX_ne e] at q1
    exact .inl ⟨j,q1,q2,q3,q4,q5⟩
  ·have:base+j≠base+i:=by omega
   simp only [Pm.put,if_neg this]
  ·have:id≠base+i:=by omega
   simp only [Pm.put,if_neg this]
   exact hI.ext.old id hid
theorem step_eff (hS:Stat P ops prs M) (hst:Steps P R n ops base D) {k:Nat} (hRec:RecOK P k R) {X:Nat→Bool} {i p:Nat} {o:Oper} {ρ:Pm} {a:Act} {w:World} (hI:Inv P n ops base D M K ρ0 ds0 X p ρ a w) (hU:Up ops M X i o)
  (hc:clsOf P o.op=3) {cr:Option Nat} {Q:Exit→Act→World→Prop} {next:Act→World→Prop} (hn:∀ρ' a' w',Inv P n ops base D M K ρ0 ds0 (addX X i) (i+1) ρ' a' w'→next a' w'):wpOpIn (Wd cr) 0 P ops Q i next a w:=by
 have hi:i<ops.size:=(Array.getElem?_eq_some_iff.1 hU.op).1
 have hpi:p≤i:=by
  rcases Nat.lt_or_ge i p with h1 | h1
  ·have:=(hI.eff i o hU.op hc).2 h1
   rw [hU.no] at this;cases this
  ·exact h1
 have hall:∀e oe,e<i→ops[e]? = some oe→2≤clsOf P oe.op→X e=true:=fun e oe he hoe hce=>by
  rcases hS.apart e i oe o he hoe hU.op with h1 | ⟨_,h1⟩
  ·exact hU.pre e h1
  ·exact (h1 ⟨hc,hce⟩).elim
 have hno:∀e oe,p≤e→e<i→ops[e]? = some oe→clsOf P oe.op≠3:=fun e oe h1 h2 h3 h4=>by
  have:=(hI.eff e oe h3 h4).1 (hall e oe h2 h3 (by omega))
  omega
 have hheap:=heap_same hst i hpi (by omega) hno
 obtain ⟨hnd,hmem⟩:=pend_spec hst hI.canon i hpi (by omega) hno
 obtain ⟨t',h1,h2,h3⟩:=drawStep_eff hc (hst i o hU.op)
 rw [hheap] at h1
 have hF:=hI.frame.absorbL (D i).pend hnd fun id ob hm=>by
  obtain ⟨j,q1,q2,q3,q4⟩:=(hmem id ob).1 hm
  have q4':=q4
  obtain ⟨oj,mk,t1,t2,_⟩:=q4'
  exact ⟨j,hall j oj q2 t1 (by omega),q1,by omega,q3,q4⟩
 obtain ⟨Kx,hR,hgo⟩:=hF.step fun id ob ⟨⟨j,_,_,hj,he,_⟩,_⟩=>by rw [absorb_nx];have:=hI.nx;omega
 refine evOp1_wp hRec hR (hI.er hS hst hU) hU.op h1 fun ρ' cv v w' hE hv hR' hp=>hn ρ' _ w' ?_
 have hback:∀d,o.dst=some d→(D (i+1)).t.get d=t'.get d:=fun d hd=>by rw [h2];exact backA_get.2 d hd
 obtain ⟨s1,s2⟩:=env_step hS hst hU hE.le hI.size hI.env hv fun d hd=>⟨((putA_get hp).2 d hd).1,by rw [hback d hd];exact ((putA_get hp).2 d hd).2⟩
 have hnx:=hE.nx
 rw [absorb_nx] at hnx
 refine ⟨by omega,hI.closed' hU,fun e oe he hce=>?_,h3,.inr ⟨i,o,rfl,hU.op,hc⟩,s1,s2,(hgo ρ' _ w' hE hR').weaken fun id ob ⟨j,q1,q2,q3,q4,q5⟩=>?_,fun j hj hX=>?_,by have:=hI.nx;omega,hI.ext.trans ?_,by cases hd:o.dst <;> exact hI.defers⟩
 ·by_cases e':e=i
  ·subst e';simp [addX_self]
  ·rw [addX_ne e']
   constructor
   ·intro hX
    have:=(hI.eff e oe he hce).1 hX
    omega
   ·intro hlt
    exact hall e oe (by omega) he (by omega)
 ·have hne:j≠i:=by omega
  rw [addX_ne hne] at q1
  refine ⟨⟨j,q1,by omega,q3,q4,q5⟩,fun ob' hm=>?_⟩
  obtain ⟨j',r1,r2,r3,_⟩:=(hmem id ob').1 hm
  omega
 ·have hne:j≠i:=fun e'=>by subst e';rw [addX_self] at hX;cases hX
  rw [addX_ne hne] at hX
  rw [hE.old _ (by rw [absorb_nx];have:=hI.nx;omega)]
  exact hI.later j hj hX
 ·rw [absorb_nx] at hE;exact hE
theorem Inv.done (hst:Steps P R n ops base D) {X:Nat→Bool} {p:Nat} {ρ:Pm} {a:Act} {w:World} (hI:Inv P n ops base D M K ρ0 ds0 X p ρ a w) (hX:∀j,j<ops.size→X j=true) :
  ∃ρ',Ext base ρ0 (absorb (D ops.size).pend (D ops.size).h).nx ρ'∧Rel K ρ' (absorb (D ops.size).pend (D ops.size).h) w∧ER ρ' (D ops.size).t n a.tmps:=by
 have hno:∀e oe,p≤e→e<ops.size→ops[e]? = some oe→clsOf P oe.op≠3:=fun e oe h1 h2 h3 h4=>by
  have:=(hI.eff e oe h3 h4).1 (hX e h2)
  omega
 have hheap:=heap_same hst ops.size hI.pm (Nat.le_refl _) hno
 obtain ⟨hnd,hmem⟩:=pend_spec hst hI.canon ops.size hI.pm (Nat.le_refl _) hno
 have hF:=hI.frame.absorbL (D ops.size).pend hnd fun id ob hm=>by
  obtain ⟨j,q1,q2,q3,q4⟩:=(hmem id ob).1 hm
  exact ⟨j,hX j q2,q1,q2,q3,q4⟩
 refine ⟨ρ,by rw [absorb_nx,hheap];exact hI.ext,by rw [hheap];exact hF.rel,hI.size,fun x v hx=>hI.env x v ?_⟩
 rw [envAt_text hst ops.size (Nat.le_refl _) fun j hj _=>hX j hj]
 exact hx
end
section
variable {P : Program} {R : Rec} {n : Nat} {ops : Array Oper} {base : Nat} {prs : List (Nat × Nat)} {M : Nat → Nat → Bool} {K : Kp} {ρ0 : Pm} {ds0 : List Deferred}
theorem first_eff (P:Program) (ops:Array Oper) (p:Nat):∀i,p≤i→(∀e o,p≤e→e<i→ops[e]? = some o→clsOf P o.op≠3) ∨
  ∃e o,p≤e∧e<i∧ops[e]? = some o∧clsOf P o.op=3∧∀e' o',p≤e'→e'<e→ops[e']? = some o'→clsOf P o'.op≠3
 | 0,h=>.inl fun e o h1 h2=>by omega
 | i+1,h=>by
  by_cases hpi:p≤i
  ·rcases first_eff P ops p i hpi with h1 | ⟨e,o,h1,h2,h3⟩
   ·by_cases hx:∃o,ops[i]? = some o∧clsOf P o.op=3
    ·obtain ⟨o,ho,hc⟩:=hx
     exact .inr ⟨i,o,hpi,by omega,ho,hc,h1⟩
    ·refine .inl fun e o h2 h3 h4 h5=>?_
     by_cases e':e=i
     ·subst e';exact hx ⟨o,h4,h5⟩
     ·exact h1 e o h2 (by omega) h4 h5
   ·exact .inr ⟨e,o,h1,by omega,h3⟩
  ·exact .inl fun e o h1 h2=>by omega
theorem low_ev {ss:List DS} (hS:Stat P ops prs M) (hst:Steps P R n ops base (dsAt ss)) (hsame:sameAll P R n ops ss prs=true) {X:Nat→Bool} {i p:Nat} {o:Oper} {ρ:Pm} {a:Act} {w:World}
  (hI:Inv P n ops base (dsAt ss) M K ρ0 ds0 X p ρ a w) (hU:Up ops M X i o) (hc:clsOf P o.op≤1) :
  ∃t2,evOp1 P R n ops o (restr (dsAt ss i).t (o.looksAt ops) .nil) (dsAt ss p).h=some (t2,(dsAt ss p).h)∧∀d,o.dst=some d→t2.get d=(dsAt ss (i+1)).t.get d:=by
 have hi:i<ops.size:=(Array.getElem?_eq_some_iff.1 hU.op).1
 obtain ⟨t',h1,h2,_,_⟩:=drawStep_low hc (hst i o hU.op)
 have hown:∀d,o.dst=some d→t'.get d=(dsAt ss (i+1)).t.get d:=fun d hd=>by rw [h2];exact (backA_get.2 d hd).symm
 by_cases hc0:clsOf P o.op=0
 ·exact ⟨t',evOp1_loc _ hc0 h1,hown⟩
 have hc1:clsOf P o.op=1:=by omega
 have viaSame:∀h,sameAt P R n ops i (dsAt ss i).t (dsAt ss (i+1)).t h=true→∃t2,evOp1 P R n ops o (restr (dsAt ss i).t (o.looksAt ops) .nil) h=some (t2,h)∧∀d,o.dst=some d→t2.get d=(dsAt ss (i+1)).t.get d:=fun h hs=>by
  obtain ⟨t2,h2,q1,q2⟩:=sameAt_spec hU.op hs
  have:=evOp1_read hc q1
  subst this
  refine ⟨t2,q1,fun d hd=>?_⟩
  obtain ⟨v,r1,r2⟩:=q2 d hd
  rw [r1,r2]
 rcases Nat.lt_or_ge i p with hip | hip
 ·-- a call behind it in the text is done
  rcases hI.past with h0 | ⟨q,oq,h0,hq,hcq⟩
  ·omega
  ·subst h0
   have hne:q≠i:=fun e=>by subst e;rw [hU.op] at hq;cases hq;omega
   have hXq:=(hI.eff q oq hq hcq).2 (by omega)
   have hM:=hU.post q (Array.getElem?_eq_some_iff.1 hq).1 hXq
   have hpr:=hS.pair i q o oq (by omega) hU.op hq hM (.inr ⟨hcq,hc1⟩)
   exact viaSame _ ((sameAll_spec prs hsame i q oq hpr hq).2 (by omega))
 ·rcases first_eff P ops p i hip with hno | ⟨e,oe,e1,e2,e3,e4,e5⟩
  ·rw [heap_same hst i hip (by omega) hno] at h1
   exact ⟨t',h1,hown⟩
  ·have hXe:X e=false:=by
    cases hX:X e with
    | false=>rfl
    | true=>have:=(hI.eff e oe e3 e4).1 hX;omega
   have hM:M i e=false:=by
    cases hm:M i e with
    | false=>rfl
    | true=>rw [hU.pre e hm] at hXe;cases hXe
   have hpr:=hS.pair e i oe o e2 e3 hU.op hM (.inl ⟨hc1,e4⟩)
   have:=(sameAll_spec prs hsame e i o hpr hU.op).1 hc1
   rw [heap_same hst e e1 (by omega) e5] at this
   exact viaSame _ this
theorem draw_any {ss:List DS} (hS:Stat P ops prs M) (hst:Steps P R n ops base (dsAt ss)) (hsame:sameAll P R n ops ss prs=true) {k:Nat} (hRec:RecOK P k R) {cr:Option Nat} {Q:Exit→Act→World→Prop}
  (hQ:∀ρ' a' w',Ext base ρ0 (absorb (dsAt ss ops.size).pend (dsAt ss ops.size).h).nx ρ'→Rel K ρ' (absorb (dsAt ss ops.size).pend (dsAt ss ops.size).h) w'→ER ρ' (dsAt ss ops.size).t n a'.tmps→a'.defers=ds0→Q .normal a' w') :
  ∀(fuel:Nat) (listed:Array Bool) (rem:List Nat) (p:Nat) (ρ:Pm) (a:Act) (w:World),listed.size=ops.size→(∀j,j<ops.size→listed.getD j false=false→j∈rem)→rem.length≤fuel →
   Inv P n ops base (dsAt ss) M K ρ0 ds0 (fun j=>listed.getD j false) p ρ a w→wpAnyIn (Wd cr) 0 P .any ops Q fuel listed a w:=by
 have hdone:∀(listed:Array Bool) (p:Nat) (ρ:Pm) (a:Act) (w:World),Inv P n ops base (dsAt ss) M K ρ0 ds0 (fun j=>listed.getD j false) p ρ a w→(∀j,j<ops.size→listed.getD j false=true)→Q .normal a w:=fun listed p ρ a w hI hX=>by
  obtain ⟨ρ',h1,h2,h3⟩:=hI.done hst hX
  exact hQ ρ' a w h1 h2 h3 hI.defers
 have hgetD:∀(listed:Array Bool) j,listed.size=ops.size→j<ops.size→listed.getD j true=listed.getD j false:=fun listed j hs hj=>by
  simp [Array.getD,hs,hj]
 have hready:∀(listed:Array Bool),listed.size=ops.size→Region.ready .any ops listed=[]→∀j,j<ops.size→listed.getD j false=true:=fun listed hs hr j=>by
  induction j using Nat.strongRecOn with
  | _ j ih =>
   intro hj
   cases hx:listed.getD j false with
   | true=>rfl
   | false =>
    have ho:ops[j]? = some ops[j]:=by simp
    have:j∈Region.ready .any ops listed:=mem_ready.2 ⟨by rw [hgetD listed j hs hj];exact hx,_,ho,fun e he hb=>by
     have hlt:=hS.back j _ ho e he hb
     exact ih e.on hlt (by omega)⟩
    rw [hr] at this;cases this
 intro fuel
 induction fuel with
 | zero =>
  intro listed rem p ρ a w hs hrem hlen hI
  have hall:∀j,j<ops.size→listed.getD j false=true:=fun j hj=>by
   cases hx:listed.getD j false with
   | true=>rfl
   | false =>
    have:=hrem j hj hx
    have:rem=[]:=List.length_eq_zero_iff.1 (by omega)
    simp_all
  refine ⟨?_,hdone listed p ρ a w hI hall⟩
  cases hr:Region.ready .any ops listed with
  | nil=>rfl
  | cons i l =>
   have hm:i∈Region.ready .any ops listed:=by rw [hr];exact List.mem_cons_self ..
   obtain ⟨h1,o,ho,_⟩:=mem_ready.1 hm
   have hi:=(Array.getElem?_eq_some_iff.1 ho).1
   rw [hgetD listed i hs hi,hall i hi] at h1;cases h1
 | succ fuel ih =>
  intro listed rem p ρ a w hs hrem hlen hI
  refine ⟨fun hr=>hdone listed p ρ a w hI (hready listed hs hr),fun i hm=>?_⟩
  obtain ⟨h1,o,ho,hpre⟩:=mem_ready.1 hm
  have hi:=(Array.getElem?_eq_some_iff.1 ho).1
  rw [hgetD listed i hs hi] at h1
  have hU:Up ops M (fun j=>listed.getD j false) i o:=⟨ho,h1,fun b hb=>by
   obtain ⟨e,he,hbi,hor⟩:=hS.why i o b ho hb
   have hX:=hpre e he hbi
   rcases hor with rfl | hor
   ·exact hX
   ·exact hI.closed e.on b (by have:=hS.back i o ho e he hbi;omega) hX hor,fun j hj hX=>by
   cases hM:M j i with
   | false=>rfl
   | true=>have hc:listed.getD i false=true:=hI.closed j i hj hX hM;rw [h1] at hc;cases hc⟩
  have hset:(fun j=>(listed.setIfInBounds i true).getD j false)=addX (fun j=>listed.getD j false) i:=by
   funext j
   by_cases e:j=i
   ·subst e
    rw [addX_self]
    simp [Array.getD,hs,hi]
   ·rw [addX_ne e]
    exact getD_set_ne false (Ne.symm e)
  have hnext:∀p' ρ' a' w',Inv P n ops base (dsAt ss) M K ρ0 ds0 (addX (fun j=>listed.getD j false) i) p' ρ' a' w'→wpAnyIn (Wd cr) 0 P .any ops Q fuel (listed.setIfInBounds i true) a' w':=fun p' ρ' a' w' hI'=>by
   refine ih (listed.setIfInBounds i true) (rem.erase i) p' ρ' a' w' (by simpa using hs) (fun j hj hx=>?_) ?_ (by rw [hset];exact hI')
   ·have hne:j≠i:=fun e=>by
     subst e
     have hc:(listed.setIfInBounds j true).getD j false=_:=congrFun hset j
     rw [addX_self] at hc
     rw [hc] at hx;cases hx
    have hc:(listed.setIfInBounds i true).getD j false=_:=congrFun hset j
    rw [addX_ne hne] at hc
    rw [hc] at hx
    exact (List.mem_erase_of_ne hne).2 (hrem j hj hx)
   ·have:=List.length_erase_of_mem (hrem i hi h1)
    omega
  rcases cls_cases P o.op with hc | hc | hc
  ·exact step_low hS hst hRec hI hU hc (low_ev hS hst hsame hI hU hc) (hnext p)
  ·exact step_al hS hst hI hU hc (hnext p)
  ·exact step_eff hS hst hRec hI hU hc (hnext (i+1))
theorem drawOK {k:Nat} (hRec:RecOK P k R):DrawOK P R:=by
 intro K ρ w a cr n ops t t' h h' l T Q hR he hb hQ
 unfold evDraw at hb
 split at hb
 ·rename_i hmix
  cases hstat:statGo P ops ops.toList 0 [] [] [] with
  | none=>simp [hstat] at hb
  | some prs =>
   simp only [hstat] at hb
   cases hgo:drawGo P R n ops h.nx ops.toList 0 { t,h:={ h with nx:=h.nx+ops.size },pend:=[] } with
   | none=>simp [hgo] at hb
   | some ss =>
    simp only [hgo] at hb
    split at hb
    ·rename_i hsame
     obtain ⟨M,hS⟩:=stat_spec hstat
     obtain ⟨g1,g2,g3⟩:=drawGo_spec _ _ _ _ hgo
     have hst:Steps P R n ops h.nx (dsAt ss):=fun k o hk=>by
      obtain ⟨s1,s2,q1,q2,q3⟩:=g3 k o (by simpa using hk)
      simp only [dsAt,q1,q2,Option.getD_some]
      simpa using q3
     have h0:dsAt ss 0={ t,h:={ h with nx:=h.nx+ops.size },pend:=[] }:=by simp [dsAt,g2]
     split at hb
     ·rename_i s hs
      simp only [Option.some.injEq,Prod.mk.injEq] at hb
      obtain ⟨rfl,rfl⟩:=hb
      have hend:dsAt ss ops.size=s:=by simp [dsAt,hs]
      simp only [Region.schedule,hmix,Bool.true_or,if_true]
      refine wpAnyIn_sound ops.size T _ a w ?_
      refine draw_any (base:=h.nx) (K:=K) (ρ0:=ρ) (ds0:=a.defers) (M:=M) hS hst hsame hRec (fun ρ' a' w' hE hR' he' hd=>?_) ops.size (Array.replicate ops.size false) (List.range ops.size) 0 ρ a w (by simp) (fun j hj _=>by simpa using hj) (by simp) ?_
      ·rw [hend] at hE hR' he'
       exact hQ ρ' a' w' hE hR' he' hd
      ·have hX:∀j,(Array.replicate ops.size false).getD j false=false:=fun j=>by
        simp only [Array.getD]
        split <;> simp
       refine ⟨by omega,fun j b _ hx=>?_,fun e o _ _=>?_,by rw [h0],.inl rfl,he.1,fun x v hx=>?_,?_,fun j hj _=>?_,by rw [h0];exact Nat.le_refl _,?_,rfl⟩
       ·rw [hX j] at hx;cases hx
       ·simp only [hX e];simp
       ·have:envAt ops (dsAt ss) (fun j=>(Array.replicate ops.size false).getD j false) x ops.size=envAt ops (dsAt ss) (fun j=>(Array.replicate ops.size false).getD j false) x 0 :=
         envAt_stop ops.size (by omega) fun j _ _ _=>hX j
        rw [this] at hx
        simp only [envAt,h0] at hx
        exact he.2 x v hx
       ·rw [h0]
        have hR':Rel K ρ { tr:=h.tr,nx:=h.nx+ops.size } w:=hR.forget (h':={ tr:=h.tr,nx:=h.nx+ops.size }) (fun _ _ hg=>hg) (by simp)
        refine Framed.of_rel hR' fun id ob hh=>?_
        obtain ⟨j,hx,_⟩:=hh
        rw [hX j] at hx;cases hx
       ·exact hR.fresh _ (by omega)
       ·rw [h0]
        exact ⟨Pm.le_refl ρ,by simp,fun _ _=>rfl⟩
     ·simp at hb
    ·simp at hb
 ·simp at hb
theorem evN_sound {S:Sums} (hS:SumsOK P S) (k:Nat):RecOK P k (evN P S k):=evN_ok hS (fun k R h=>drawOK h) k
end
open Go.Proofs
section
variable {P : Program} {ρ : Pm} {w : World} {K : Kp} {h : AH}
def ExtOK (P:Program) (f:FuncId) (e:Array Value→Sem Value):Prop :=
 ∃ fn, P.funcs[f]? = some fn ∧ (fn.name == "runtime.NumGoroutine") = false ∧ fn.body.isNone = true ∧ Extern.findNext fn = none ∧ Extern.find fn = some e
theorem callRes_ext {f:FuncId} {e:Array Value→Sem Value} (hE:ExtOK P f e) {cargs:Array Value} {cv:Value} {w':World} {Q:Value→World→Prop} (hr:(e cargs).run P w=.ok cv w') (hq:Q cv w'):CallRes P f cargs w Q:=by
 obtain ⟨fn,h1,h2,h3,h4,h5⟩:=hE
 exact ⟨.value cv,w',by rw [run_callFunc_extern h1 h2 h3 h4 h5,hr];rfl,hq⟩
theorem callRes_body {f:FuncId} (hb:bodied P f=true) {cargs:Array Value} {Q:Value→World→Prop} (hc:Calls P f cargs w fun e w'=>∃cv,e=.returned cv∧Q cv w'):CallRes P f cargs w Q :=
 ⟨.enter f cargs,w,callFunc_bodied hb cargs w,callsIn_wide.2 hc⟩
/-! ### Counting a byte, looking for a byte -/
def cntA (k:Nat):List Nat→Nat
 | []=>0
 | a::l=>cond (Nat.beq a k) (cntA k l+1) (cntA k l)
def idxA (k:Nat):List Nat→Nat→Int
 | [],_=>-1
 | a::l,i=>cond (Nat.beq a k) (Int.ofNat i) (idxA k l (i+1))
def sumCount (args:List AV) (h:AH):Option (AV×AH) :=
 match args with
 | [.str s,.int .u8 c]=>some (.int .i64 (Int.ofNat (cntA (c.toNat%256) s)),h)
 | _=>none
def sumIndex (args:List AV) (h:AH):Option (AV×AH) :=
 match args with
 | [.str s,.int .u8 c]=>some (.int .i64 (idxA (c.toNat%256) s 0),h)
 | _=>none
theorem byte_eq (b:UInt8) (n:Nat):Nat.beq b.toNat (n%256)=(b==n.toUInt8):=by
 rw [nbeq]
 have:(b.toNat=n%256)↔b=n.toUInt8:=by
  rw [←UInt8.toNat_inj]
  simp [Nat.toUInt8]
 rw [Bool.eq_iff_iff,decide_eq_true_eq,beq_iff_eq]
 exact this
theorem cntA_eq (n:Nat):∀l:List UInt8,cntA (n%256) (l.map UInt8.toNat)=Lib.countByte l n.toUInt8
 | []=>rfl
 | b::l=>by
  simp only [List.map_cons,cntA,byte_eq,cntA_eq n l,Lib.countByte,List.count_cons]
  cases b==n.toUInt8 <;> simp
theorem indexByte_nonneg (l:List UInt8) (c:UInt8):Lib.indexByte l c=-1∨0≤Lib.indexByte l c:=by
 have:=Lib.indexByte_ge l c;omega
theorem idxA_eq (n:Nat):∀(l:List UInt8) (i:Nat),idxA (n%256) (l.map UInt8.toNat) i=if Lib.indexByte l n.toUInt8=-1 then -1 else Lib.indexByte l n.toUInt8+(i:Nat)
 | [],i=>by simp [idxA,Lib.indexByte]
 | b::l,i=>by
  simp only [List.map_cons,idxA,byte_eq,idxA_eq n l (i+1),Lib.indexByte]
  by_cases hb:(b==n.toUInt8)=true
  ·simp only [hb,if_true,cond_true]
   simp
  ·simp only [Bool.not_eq_true] at hb
   simp only [hb,cond_false,Bool.false_eq_true,if_false,beq_iff_eq]
   rcases indexByte_nonneg l n.toUInt8 with h1 | h1
   ·simp [h1]
   ·have h2:Lib.indexByte l n.toUInt8≠-1:=by omega
    have h3:Lib.indexByte l n.toUInt8+1≠-1:=by omega
    simp only [h2,h3,if_false]
    omega
theorem args2 {x y:AV} {cargs:Array Value} (hv:VRs ρ [x,y] cargs.toList):∃cx cy,cargs=#[cx,cy]∧VR ρ x cx∧VR ρ y cy:=by
 obtain ⟨l⟩:=cargs
 cases hv with
 | cons h1 t=>cases t with
  | cons h2 t=>cases t with
   | nil=>exact ⟨_,_,rfl,h1,h2⟩
theorem args1 {x:AV} {cargs:Array Value} (hv:VRs ρ [x] cargs.toList):∃cx,cargs=#[cx]∧VR ρ x cx:=by
 obtain ⟨l⟩:=cargs
 cases hv with
 | cons h1 t=>cases t with
  | nil=>exact ⟨_,rfl,h1⟩
theorem sumCount_ok {f:FuncId} (hE:ExtOK P f Extern.BytealgCount.count) {args:List AV} {cargs:Array Value} {v:AV} {h':AH} (hR:Rel K ρ h w) (hv:VRs ρ args cargs.toList) (hs:sumCount args h=some (v,h')):CallRes P f cargs w (CallPost K h ρ v h'):=by
 unfold sumCount at hs
 split at hs
 ·obtain ⟨cx,cy,rfl,h1,h2⟩:=args2 hv
  cases h1;cases h2
  simp only [Option.some.injEq,Prod.mk.injEq] at hs
  obtain ⟨rfl,rfl⟩:=hs
  refine callRes_ext hE (Lib.run_countString _ _ w) ⟨ρ,Ext.refl _ _,?_,hR⟩
  rename_i c s
  rw [show bytesOf s=s.data.toList.map UInt8.toNat from rfl,cntA_eq]
  exact .int _ _
 ·simp at hs
theorem sumIndex_ok {f:FuncId} (hE:ExtOK P f Extern.BytealgIndexByte.indexByte) {args:List AV} {cargs:Array Value} {v:AV} {h':AH} (hR:Rel K ρ h w) (hv:VRs ρ args cargs.toList) (hs:sumIndex args h=some (v,h')):CallRes P f cargs w (CallPost K h ρ v h'):=by
 unfold sumIndex at hs
 split at hs
 ·obtain ⟨cx,cy,rfl,h1,h2⟩:=args2 hv
  cases h1;cases h2
  simp only [Option.some.injEq,Prod.mk.injEq] at hs
  obtain ⟨rfl,rfl⟩:=hs
  refine callRes_ext hE (Lib.run_indexByteString _ _ w) ⟨ρ,Ext.refl _ _,?_,hR⟩
  rename_i c s
  rw [show bytesOf s=s.data.toList.map UInt8.toNat from rfl,idxA_eq]
  have:(if Lib.indexByte s.data.toList c.toNat.toUInt8=-1 then (-1:Int) else Lib.indexByte s.data.toList c.toNat.toUInt8+((0:Nat):Int))=Lib.indexByte s.data.toList c.toNat.toUInt8:=by
   split <;> omega
  rw [this]
  exact .int _ _
 ·simp at hs
/-! ### A map is cloned -/
end
section
variable {P : Program} {ρ : Pm} {w : World} {K : Kp} {h : AH}
/-! ### Sorting -/
/-! ### The keys -/
def anyR:Value→Option (DataW Unit×List MemPlace):=fun _=>some (.lit (.bool false),[])
end
open Go.RowKit
section
variable {P : Program} {ρ : Pm} {w w' : World} {K : Kp} {h : AH}
theorem Rel.below (hR:Rel K ρ h w) (hb:Below w.heap.size w w'):Rel K ρ h w':=by
 refine ⟨hb.os.trans hR.os,hb.tape.trans hR.tape,hb.output.trans hR.output,Nat.le_trans hR.size hb.size,fun b o hbo=>?_,hR.fresh,fun id o hg=>?_,hR.inj⟩
 ·rw [hb.block b (hR.size_le b o hbo)];exact hR.keep b o hbo
 ·obtain ⟨p,hp,hor,h1,h2⟩:=hR.obj id o hg
  exact ⟨p,hp,by rw [hb.block p.b (hR.lt hg hp)];exact hor,h1,h2⟩
structure SortedAt (P:Program) (fS g:FuncId) (k:TypeId):Prop where
 key:P.underlying k=some .string
 body:bodied P fS=true
 all:∀(bm b nn:Nat) (D0:DataW Unit) (w:World),w.cell? ⟨bm,0,none⟩=some (.map (some b))→bm<w.heap.size→w.ownsMap P k anyR b nn D0→Maps.size D0≤maxLen→Maps.size D0*16≤140737488355328 →
  Calls P fS #[.func (.func g) #[] #[.pointer (some ⟨bm,0,none⟩)]] w fun e w'=>∃(v:Value) (ss:List (List UInt8)) (et:TypeId),e=.returned v∧ss.Perm (strKeys D0)∧w'.ownsRow w.heap.size et 1 v ss.length ((ss.mergeSort leB).map encStr)∧(v=.slice none 0 0↔ss=[])∧Below w.heap.size w w'
 nil:∀(bm:Nat) (w:World),w.cell? ⟨bm,0,none⟩=some (.map none)→bm<w.heap.size →
  Calls P fS #[.func (.func g) #[] #[.pointer (some ⟨bm,0,none⟩)]] w fun e w'=>e=.returned (.slice none 0 0)∧Below w.heap.size w w'
end
def FileAt (w:World) (a:Addr):Prop:=a.block<w.heap.size∧a.spot=none∧∃base n cap,w.cell? a=some (.slice base n cap)∧((base=none∧n=0∧cap=0)∨∃c,base=some c∧n≤cap∧(cap=0∨c.spot=none))
abbrev File (w:World):={ a:Addr // FileAt w a }
def encF {w:World} (x:File w):Value:=.pointer (some x.1)
open Classical in
noncomputable def relF (w:World) (v:Value):Option (DataW Value×List MemPlace) :=
 if ∃x:File w,v=encF x then some (.held v,[]) else none
def ValAtF {w:World} (D0:DataW Value) (p:List UInt8×File w):Prop:=∀zd,D0.atKey (.string p.1) zd=.held (encF p.2)
def AllF {w:World} (D0:DataW Value) (xs:List (File w)):Prop:=∃ps:List (List UInt8×File w),(ps.map (·.1)).Perm (strKeys D0)∧(∀p∈ps,ValAtF D0 p)∧xs=ps.map (·.2)
def lenF {w:World} (x:File w):Int:=match w.cell? x.1 with
 | some (.slice _ n _)=>n
 | _=>0
section
variable {P : Program} {ρ : Pm} {w w' : World} {K : Kp} {h : AH}
structure UsedAt (P:Program) (f:FuncId) (k:TypeId):Prop where
 key:P.underlying k=some .string
 body:bodied P f=true
 used:∀(tb to b nn:Nat) (D0:DataW Value) (w:World),w.cell? ⟨tb,to+2,none⟩=some (.map (some b))→w.ownsMap P k (relF w) b nn D0 →
  Calls P f #[.pointer (some ⟨tb,to,none⟩)] w fun e w'=>(∃xs:List (File w),AllF D0 xs∧e=.returned (.int .i64 (wrap64 ((xs.map lenF).sum))))∧Below w.heap.size w w'
end
structure Rec.le (R R':Rec):Prop where
 call:∀f a h r,R.call f a h=some r→R'.call f a h=some r
 round:∀i a h r,R.round i a h=some r→R'.round i a h=some r
 loop:∀r fn n c s x,R.loop r fn n c s=some x→R'.loop r fn n c s=some x
theorem Rec.le_refl (R:Rec):R.le R:=⟨fun _ _ _ _ h=>h,fun _ _ _ _ h=>h,fun _ _ _ _ _ _ h=>h⟩
theorem evOp1_mono {P:Program} {R R':Rec} (hle:R.le R') {n:Nat} {ops:Array Oper} {o:Oper} {t:Env} {h:AH} {x:Env×AH} (hx:evOp1 P R n ops o t h=some x):evOp1 P R' n ops o t h=some x:=by
 unfold evOp1 at hx ⊢
 cases hw:wantedA ops t o with
 | none=>rw [hw] at hx;cases hx
 | some b =>
  rw [hw] at hx
  cases b with
  | false=>exact hx
  | true =>
   simp only at hx ⊢
   cases he:evOper P (opnd t) o h with
   | none=>rw [he] at hx;cases hx
   | some r =>
    rw [he] at hx
    cases r with
    | val v h'=>exact hx
    | skip h'=>exact hx
    | call f args =>
     simp only at hx ⊢
     cases hc:R.call f args h with
     | none=>rw [hc] at hx;cases hx
     | some y=>rw [hc] at hx;rw [hle.call _ _ _ _ hc];exact hx
    | yield id args =>
     simp only at hx ⊢
     cases hc:R.round id args h with
     | none=>rw [hc] at hx;cases hx
     | some y=>rw [hc] at hx;rw [hle.round _ _ _ _ hc];exact hx
theorem evOps_mono {P:Program} {R R':Rec} (hle:R.le R') {n:Nat} {ops:Array Oper}:∀ {l:List Oper} {t:Env} {h:AH} {x:Env×AH},evOps P R n ops l t h=some x→evOps P R' n ops l t h=some x
 | [],_,_,_,hx=>hx
 | o::r,t,h,x,hx=>by
  unfold evOps at hx ⊢
  cases h1:evOp1 P R n ops o t h with
  | none=>rw [h1] at hx;cases hx
  | some y=>rw [h1] at hx;rw [evOp1_mono hle h1];exact evOps_mono hle hx
theorem drawStep_mono {P:Program} {R R':Rec} (hle:R.le R') {n:Nat} {ops:Array Oper} {base i:Nat} {o:Oper} {s x:DS} (hx:drawStep P R n ops base i o s=some x):drawStep P R' n ops base i o s=some x:=by
 unfold drawStep at hx ⊢
 split at hx
 ·exact hx
 ·cases h1:evOp1 P R n ops o (restr s.t (o.looksAt ops) .nil) (absorb s.pend s.h) with
  | none=>rw [h1] at hx;cases hx
  | some y=>rw [h1] at hx;rw [evOp1_mono hle h1];exact hx
 ·cases h1:evOp1 P R n ops o (restr s.t (o.looksAt ops) .nil) s.h with
  | none=>rw [h1] at hx;cases hx
  | some y=>rw [h1] at hx;rw [evOp1_mono hle h1];exact hx
theorem drawGo_mono {P:Program} {R R':Rec} (hle:R.le R') {n:Nat} {ops:Array Oper} {base:Nat}:∀ {l:List Oper} {i:Nat} {s:DS} {x:List DS},drawGo P R n ops base l i s=some x→drawGo P R' n ops base l i s=some x
 | [],_,_,_,hx=>hx
 | o::r,i,s,x,hx=>by
  unfold drawGo at hx ⊢
  cases h1:drawStep P R n ops base i o s with
  | none=>rw [h1] at hx;cases hx
  | some y =>
   rw [h1] at hx;rw [drawStep_mono hle h1]
   simp only at hx ⊢
   cases h2:drawGo P R n ops base r (i+1) y with
   | none=>rw [h2] at hx;cases hx
   | some z=>rw [h2] at hx;rw [drawGo_mono hle h2];exact hx
theorem sameAt_mono {P:Program} {R R':Rec} (hle:R.le R') {n:Nat} {ops:Array Oper} {i:Nat} {t t':Env} {h:AH} (hx:sameAt P R n ops i t t' h=true):sameAt P R' n ops i t t' h=true:=by
 unfold sameAt at hx ⊢
 cases ho:ops[i]? with
 | none=>rw [ho] at hx;cases hx
 | some o =>
  rw [ho] at hx
  simp only at hx ⊢
  cases h1:evOp1 P R n ops o (restr t (o.looksAt ops) .nil) h with
  | none=>rw [h1] at hx;cases hx
  | some y=>rw [h1] at hx;rw [evOp1_mono hle h1];exact hx
theorem sameAll_mono {P:Program} {R R':Rec} (hle:R.le R') {n:Nat} {ops:Array Oper} {ss:List DS}:∀ {l:List (Nat×Nat)},sameAll P R n ops ss l=true→sameAll P R' n ops ss l=true
 | [],_=>rfl
 | (j,i)::r,hx=>by
  unfold sameAll at hx ⊢
  rw [Bool.and_eq_true] at hx ⊢
  refine ⟨?_,sameAll_mono hle hx.2⟩
  have h1:=hx.1
  split at h1
  ·split
   ·rename_i hc;rw [if_pos hc] at h1;exact sameAt_mono hle h1
   ·rename_i hc;rw [if_neg hc] at h1;exact sameAt_mono hle h1
  ·cases h1
theorem evDraw_mono {P:Program} {R R':Rec} (hle:R.le R') {n:Nat} {ops:Array Oper} {t:Env} {h:AH} {x:Env×AH} (hx:evDraw P R n ops t h=some x):evDraw P R' n ops t h=some x:=by
 unfold evDraw at hx ⊢
 split at hx
 ·rename_i hf
  rw [if_pos hf]
  cases h1:statGo P ops ops.toList 0 [] [] [] with
  | none=>rw [h1] at hx;cases hx
  | some prs =>
   rw [h1] at hx
   simp only at hx ⊢
   cases h2:drawGo P R n ops h.nx ops.toList 0 { t,h:={ h with nx:=h.nx+ops.size },pend:=[] } with
   | none=>rw [h2] at hx;cases hx
   | some ss =>
    rw [h2] at hx;rw [drawGo_mono hle h2]
    simp only at hx ⊢
    split at hx
    ·rename_i hs;rw [if_pos (sameAll_mono hle hs)];exact hx
    ·cases hx
 ·cases hx
theorem evCode_mono {P:Program} {R R':Rec} (hle:R.le R') {r:Option Nat} {fn:FuncId} {n:Nat}:∀ {c:Code} {s:St} {x:Ex×St},evCode P R r fn n c s=some x→evCode P R' r fn n c s=some x:=by
 intro c
 induction c with
 | skip=>intro s x hx;exact hx
 | label l=>intro s x hx;exact hx
 | region id ops d =>
  intro s x hx
  cases d with
  | false =>
   unfold evCode at hx ⊢
   cases h1:evOps P R n ops ops.toList s.t s.h with
   | none=>rw [h1] at hx;cases hx
   | some y=>rw [h1] at hx;rw [evOps_mono hle h1];exact hx
  | true =>
   unfold evCode at hx ⊢
   cases h1:evDraw P R n ops s.t s.h with
   | none=>rw [h1] at hx;cases hx
   | some y=>rw [h1] at hx;rw [evDraw_mono hle h1];exact hx
 | seq a b iha ihb =>
  intro s x hx
  unfold evCode at hx ⊢
  cases h1:evCode P R r fn n a s with
  | none=>rw [h1] at hx;cases hx
  | some y =>
   rw [h1] at hx;rw [iha h1]
   obtain ⟨ex,s'⟩:=y
   cases ex with
   | normal=>exact ihb hx
   | exit _=>exact hx
   | ret=>exact hx
 | cond c a b iha ihb =>
  intro s x hx
  unfold evCode at hx ⊢
  split at hx
  ·rename_i t ht
   cases t with
   | true=>exact iha hx
   | false=>exact ihb hx
  ·cases hx
 | block id c ih =>
  intro s x hx
  unfold evCode at hx ⊢
  cases h1:evCode P R r fn n c s with
  | none=>rw [h1] at hx;cases hx
  | some y=>rw [h1] at hx;rw [ih h1];exact hx
 | loop c ih=>intro s x hx;exact hle.loop _ _ _ _ _ _ hx
 | rangeFunc g ps a b iha ihb =>
  intro s x hx
  unfold evCode at hx ⊢
  cases h1:loopHead r s with
  | none=>rw [h1] at hx;cases hx
  | some y =>
   obtain ⟨d,h1',ds⟩:=y
   rw [h1] at hx
   simp only at hx ⊢
   split at hx
   ·rename_i f first captured hg
    split at hx
    ·rename_i hb
     rw [if_pos hb]
     split at hx
     ·rename_i v h3 hc
      rw [hle.call _ _ _ _ hc]
      exact hx
     ·cases hx
    ·cases hx
   ·cases hx
 | exit id=>intro s x hx;exact hx
 | scope c ih=>intro s x hx;unfold evCode at hx ⊢;exact ih hx
 | goto l=>intro s x hx;exact hx
 | ret=>intro s x hx;exact hx
 | refuse w=>intro s x hx;exact hx
theorem evFn_mono {P:Program} {S:Sums} {R R':Rec} (hle:R.le R') {f:FuncId} {args:List AV} {h:AH} {x:AV×AH} (hx:evFn P S R f args h=some x):evFn P S R' f args h=some x:=by
 unfold evFn at hx ⊢
 cases hs:S f args h with
 | some r=>rw [hs] at hx;exact hx
 | none =>
  rw [hs] at hx
  simp only at hx ⊢
  split at hx
  ·cases hx
  ·rename_i hb
   rw [if_neg hb]
   cases hf:P.funcs[f]? with
   | none=>rw [hf] at hx;cases hx
   | some fn =>
    rw [hf] at hx
    simp only at hx ⊢
    cases hc:fn.body with
    | none=>rw [hc] at hx;cases hx
    | some c =>
     rw [hc] at hx
     simp only at hx ⊢
     cases h1:evCode P R none f (nTmps fn args) c { t:=argsEnv args 0 .nil,h,d:=[] } with
     | none=>rw [h1] at hx;cases hx
     | some y=>rw [h1] at hx;rw [evCode_mono hle h1];exact hx
theorem evRound_mono {P:Program} {R R':Rec} (hle:R.le R') {l:Nat} {args:List AV} {h:AH} {x:AV×AH} (hx:evRound P R l args h=some x):evRound P R' l args h=some x:=by
 unfold evRound at hx ⊢
 split at hx
 ·rename_i st pend fn t n ps a b d hg
  cases hs:setArgs ps.toList args n t with
  | none=>rw [hs] at hx;cases hx
  | some t' =>
   rw [hs] at hx
   simp only at hx ⊢
   cases h1:evCode P R (some l) fn n a { t:=t',h,d:=[] } with
   | none=>rw [h1] at hx;cases hx
   | some y =>
    rw [h1] at hx;rw [evCode_mono hle h1]
    obtain ⟨ex1,s1⟩:=y
    cases ex1 with
    | normal =>
     simp only at hx ⊢
     split at hx
     ·rename_i pend fn1 t1 n1 ps1 a1 b1 d1 h2
      cases h3:evCode P R (some l) fn n b { s1 with h:=s1.h.put l (.loop .busy pend fn1 t1 n1 ps1 a1 b1 d1) } with
      | none=>rw [h3] at hx;cases hx
      | some z=>rw [h3] at hx;rw [evCode_mono hle h3];exact hx
     ·cases hx
    | exit _=>exact hx
    | ret=>exact hx
 ·cases hx
theorem evN_mono1 (P:Program) (S:Sums):∀k,(evN P S k).le (evN P S (k+1))
 | 0=>⟨(fun _ _ _ _ h=>by cases h),(fun _ _ _ _ h=>by cases h),(fun _ _ _ _ _ _ h=>by cases h)⟩
 | k+1=>by
  have ih:=evN_mono1 P S k
  refine ⟨fun f a h r hx=>evFn_mono ih hx,fun i a h r hx=>evRound_mono ih hx,fun r fn n c s x hx=>?_⟩
  have hx':(match evCode P (evN P S k) r fn n c s with | some (.normal,s')=>(evN P S k).loop r fn n c s' | x=>x)=some x:=hx
  show (match evCode P (evN P S (k+1)) r fn n c s with | some (.normal,s')=>(evN P S (k+1)).loop r fn n c s' | x=>x)=some x
  cases h1:evCode P (evN P S k) r fn n c s with
  | none=>rw [h1] at hx';cases hx'
  | some y =>
   rw [h1] at hx';rw [evCode_mono ih h1]
   obtain ⟨ex,s'⟩:=y
   cases ex with
   | normal=>exact ih.loop _ _ _ _ _ _ hx'
   | exit _=>exact hx'
   | ret=>exact hx'
theorem Rec.le_trans {a b c:Rec} (h:a.le b) (k:b.le c):a.le c:=⟨fun _ _ _ _ x=>k.call _ _ _ _ (h.call _ _ _ _ x),fun _ _ _ _ x=>k.round _ _ _ _ (h.round _ _ _ _ x),fun _ _ _ _ _ _ x=>k.loop _ _ _ _ _ _ (h.loop _ _ _ _ _ _ x)⟩
theorem evN_mono {P:Program} {S:Sums} {k j:Nat} (h:k≤j):(evN P S k).le (evN P S j):=by
 induction h with
 | refl=>exact Rec.le_refl _
 | step _ ih=>exact Rec.le_trans ih (evN_mono1 P S _)
universe u
section
variable (P : Program) (S : Sums)
def RnC (f:FuncId) (args:List AV) (h:AH) (Q:AV→AH→Prop):Prop:=∃k v h',(evN P S k).call f args h=some (v,h')∧Q v h'
def RnR (l:Nat) (args:List AV) (h:AH) (Q:AV→AH→Prop):Prop:=∃k v h',(evN P S k).round l args h=some (v,h')∧Q v h'
def RnL (r:Option Nat) (fn:FuncId) (n:Nat) (c:Code) (s:St) (Q:Ex→St→Prop):Prop:=∃k ex s',(evN P S k).loop r fn n c s=some (ex,s')∧Q ex s'
variable {P S}
theorem RnC.mono {f:FuncId} {args:List AV} {h:AH} {Q Q':AV→AH→Prop} (hx:RnC P S f args h Q) (hq:∀v h',Q v h'→Q' v h'):RnC P S f args h Q' :=
 let ⟨k,v,h',h1,h2⟩:=hx;⟨k,v,h',h1,hq v h' h2⟩
theorem RnR.mono {l:Nat} {args:List AV} {h:AH} {Q Q':AV→AH→Prop} (hx:RnR P S l args h Q) (hq:∀v h',Q v h'→Q' v h'):RnR P S l args h Q' :=
 let ⟨k,v,h',h1,h2⟩:=hx;⟨k,v,h',h1,hq v h' h2⟩
theorem RnL.mono {r:Option Nat} {fn:FuncId} {n:Nat} {c:Code} {s:St} {Q Q':Ex→St→Prop} (hx:RnL P S r fn n c s Q) (hq:∀ex s',Q ex s'→Q' ex s'):RnL P S r fn n c s Q' :=
 let ⟨k,ex,s',h1,h2⟩:=hx;⟨k,ex,s',h1,hq ex s' h2⟩
variable (P S)
structure Blk {α:Sort u} (K:α):Type where
def bnd {α:Type} (o:Option α) (K:α→Prop) (_:Blk K):Prop:=∃a,o=some a∧K a
def ltv {α:Type} (v:α) (K:α→Prop) (_:Blk K):Prop:=K v
def chk (p K:Prop) (_:Blk K):Prop:=p∧K
def ifB (v:AV) (A B:Prop) (_:Blk A) (_:Blk B):Prop:=∃t,v=.bool t∧(t=true→A)∧(t=false→B)
def clsK (c:Nat) (A B C:Prop) (_:Blk A) (_:Blk B) (_:Blk C):Prop :=
 match c with
 | 2=>A
 | 3=>B
 | _=>C
def callK (f:FuncId) (args:List AV) (h:AH) (K:AV→AH→Prop) (_:Blk K):Prop:=RnC P S f args h K
def yldK (l:Nat) (args:List AV) (h:AH) (K:AV→AH→Prop) (_:Blk K):Prop:=RnR P S l args h K
def loopK (r:Option Nat) (fn n:Nat) (c:Code) (s:St) (Q:Ex→St→Prop) (_:Blk c) (_:Blk s) (_:Blk Q):Prop:=RnL P S r fn n c s Q
def resK (h:AH) (K:AV→AH→Prop) (r:ORes):Prop :=
 match r with
 | .val v h'=>K v h'
 | .skip h'=>K (.tup []) h'
 | .call f args=>callK P S f args h K ⟨⟩
 | .yield id args=>yldK P S id args h K ⟨⟩
def syV (fv:AV) (args:List AV) (h:AH) (K:AV→AH→Prop):Prop :=
 match fv with
 | .func (.func g) first captured=>callK P S g (first++args++captured) h K ⟨⟩
 | .func fn first captured=>bnd (evInvoke P fn (first++args) captured) (resK P S h K) ⟨⟩
 | .yld id=>yldK P S id args h K ⟨⟩
 | _=>False
def syO (E:Operand→AV) (op:Op) (h:AH) (K:AV→AH→Prop):Prop :=
 match op with
 | .move x=>ltv (E x) (fun v=>K v h) ⟨⟩
 | .assign x=>ltv (E x) (fun v=>K v h) ⟨⟩
 | .pick c a b=>ifB (E c) (ltv (E a) (fun v=>K v h) ⟨⟩) (ltv (E b) (fun v=>K v h) ⟨⟩) ⟨⟩ ⟨⟩
 | .load t a=>bnd (evLoad P h t (E a)) (fun v=>K v h) ⟨⟩
 | .store t a x=>bnd (evStore P h t (E a) (E x)) (fun h'=>K (.tup []) h') ⟨⟩
 | .build t parts=>bnd (evBuild P t (parts.toList.map fun (i,x)=>(i,E x))) (fun v=>K v h) ⟨⟩
 | .binOp op t x y _=>bnd (binA P h op t (E x) (E y)) (fun v=>K v h) ⟨⟩
 | .unOp op _ x=>bnd (unA op (E x)) (fun v=>K v h) ⟨⟩
 | .slice t x lo hi mx=>bnd (evSlice P h t (E x) (lo.map E) (hi.map E) (mx.map E)) (fun v=>K v h) ⟨⟩
 | .indexAddr t x i=>bnd (evIndexAddr P t (E x) (E i)) (fun v=>K v h) ⟨⟩
 | .index t x i=>bnd (evIndex P t (E x) (E i)) (fun v=>K v h) ⟨⟩
 | .lookup t x i ok=>bnd (evLookup P h t (E x) (E i) ok) (fun v=>K v h) ⟨⟩
 | .call c=>match c.callee with
  | .value f=>ltv (E f) (fun fv=>ltv (c.args.toList.map E) (fun args=>syV P S fv args h K) ⟨⟩) ⟨⟩
  | _=>bnd (evCall P h E c) (resK P S h K) ⟨⟩
 | op => bnd (evOper P E { dst := none, op, type := 0, pos := "", after := #[], guard := none } h) (resK P S h K) ⟨⟩
def syPut (n:Nat) (t:Env) (dst:Option Tmp) (v:AV) (K:Env→Prop):Prop :=
 match dst with
 | none=>K t
 | some d=>chk (d<n) (K (t.set d (some v))) ⟨⟩
def sy1 (n:Nat) (ops:Array Oper) (o:Oper) (t:Env) (h:AH) (K:Env→AH→Prop):Prop :=
 match o.guard with
 | none=>syO P S (opnd t) o.op h fun v h'=>syPut n t o.dst v fun t'=>K t' h'
 | some _=>bnd (wantedA ops t o) (fun b=>ifB (.bool b) (syO P S (opnd t) o.op h fun v h'=>syPut n t o.dst v fun t'=>K t' h') (syPut n t o.dst (.tup []) fun t'=>K t' h) ⟨⟩ ⟨⟩) ⟨⟩
def syOps (n:Nat) (ops:Array Oper):List Oper→Env→AH→(Env→AH→Prop)→Prop
 | [],t,h,K=>K t h
 | o::r,t,h,K=>sy1 P S n ops o t h fun t' h'=>syOps n ops r t' h' K
def syDS (n:Nat) (ops:Array Oper) (base i:Nat) (o:Oper) (t:Env) (h:AH) (pend:List (Nat×AO)) (K:Env→AH→List (Nat×AO)→Prop):Prop :=
 clsK (clsOf P o.op)
  (bnd (wantedA ops t o) (fun b=>ifB (.bool b)
   (bnd (allocA P (opnd t) o.op) (fun x=>syPut n t o.dst (x.2 (base+i)) fun t'=>K t' h (pend++[(base+i,x.1)])) ⟨⟩)
   (syPut n t o.dst (.tup []) fun t'=>K t' h pend) ⟨⟩ ⟨⟩) ⟨⟩)
  (sy1 P S n ops o t (absorb pend h) fun t' h'=>K t' h' [])
  (sy1 P S n ops o t h fun t' _=>K t' h pend) ⟨⟩ ⟨⟩ ⟨⟩
def syGo (n:Nat) (ops:Array Oper) (base:Nat):List Oper→Nat→Env→AH→List (Nat×AO)→List DS→(List DS→Env→AH→Prop)→Prop
 | [],_,t,h,pend,acc,K=>K (acc++[{ t,h,pend }]) t (absorb pend h)
 | o::r,i,t,h,pend,acc,K=>syDS P S n ops base i o t h pend fun t' h' pend'=>syGo n ops base r (i+1) t' h' pend' (acc++[{ t,h,pend }]) K
def syGo0 (n:Nat) (ops:Array Oper) (base:Nat):List Oper→Nat→Env→AH→List (Nat×AO)→(Env→AH→Prop)→Prop
 | [],_,t,h,pend,K=>K t (absorb pend h)
 | o::r,i,t,h,pend,K=>syDS P S n ops base i o t h pend fun t' h' pend'=>syGo0 n ops base r (i+1) t' h' pend' K
def syDraw (n:Nat) (ops:Array Oper) (t:Env) (h:AH) (K:Env→AH→Prop) (_:Blk ops) (_:Blk t) (_:Blk h) (_:Blk K):Prop :=
 P.follows .mixedOrders=true∧∃prs,statGo P ops ops.toList 0 [] [] []=some prs ∧
  syGo P S n ops h.nx ops.toList 0 t { tr:=h.tr,nx:=h.nx+ops.size } [] [] fun ss t' h'=>sameAll P (evN P S 0) n ops ss prs=true∧K t' h'
def thenK (A:St→Prop) (Q:Ex→St→Prop) (ex:Ex) (s:St):Prop :=
 match ex with
 | .normal=>A s
 | .exit i=>Q (.exit i) s
 | .ret=>Q .ret s
def blkK (id:Nat) (Q:Ex→St→Prop) (ex:Ex) (s:St):Prop :=
 match ex with
 | .normal=>Q .normal s
 | .exit j=>Q (cond (Nat.beq j id) .normal (.exit j)) s
 | .ret=>Q .ret s
def rngK (t:Env) (fn n:Nat) (ps:Array Tmp) (assign body:Code) (Q:Ex→St→Prop) (x:Nat×AH×List Nat) (g:AV):Prop :=
 match g with
 | .func (.func f) first captured=>chk (bodied P f=true) (callK P S f (first++[.yld x.2.1.nx]++captured) (x.2.1.new (.loop .ready none fn t n ps assign body x.1)) (fun _ h3 =>
   bnd (loopTail t x.2.2 x.2.1.nx h3) (fun y=>Q y.1 y.2) ⟨⟩) ⟨⟩) ⟨⟩
 | _=>False
def syC (r:Option Nat) (fn:FuncId) (n:Nat):Code→St→(Ex→St→Prop)→Prop
 | .skip,s,Q=>Q .normal s
 | .label _,s,Q=>Q .normal s
 | .scope c,s,Q=>syC r fn n c s Q
 | .region _ ops false,s,Q=>syOps P S n ops ops.toList s.t s.h fun t h=>Q .normal { t,h,d:=s.d }
 | .region _ ops true,s,Q=>syDraw P S n ops s.t s.h (fun t h=>Q .normal { t,h,d:=s.d }) ⟨⟩ ⟨⟩ ⟨⟩ ⟨⟩
 | .seq a b,s,Q=>syC r fn n a s (thenK (fun s'=>syC r fn n b s' Q) Q)
 | .cond c a b,s,Q=>ifB (opnd s.t c) (syC r fn n a s Q) (syC r fn n b s Q) ⟨⟩ ⟨⟩
 | .block id c,s,Q=>syC r fn n c s (blkK id Q)
 | .loop c,s,Q=>loopK P S r fn n c s Q ⟨⟩ ⟨⟩ ⟨⟩
 | .exit id,s,Q=>Q (.exit id) s
 | .ret,s,Q=>Q .ret s
 | .rangeFunc g ps assign body,s,Q=>bnd (loopHead r s) (fun x=>ltv (opnd s.t g) (fun gv=>rngK P S s.t fn n ps assign body Q x gv) ⟨⟩) ⟨⟩
 | _,_,_=>False
end
section
variable {P : Program} {S : Sums}
def stepR (R:Rec) (o:Option ORes) (h:AH):Option (AV×AH) :=
 match o with
 | some (.val v h')=>some (v,h')
 | some (.skip h')=>some (.tup [],h')
 | some (.call f args)=>R.call f args h
 | some (.yield id args)=>R.round id args h
 | none=>none
theorem evOp1_eq (P:Program) (R:Rec) (n:Nat) (ops:Array Oper) (o:Oper) (t:Env) (h:AH):evOp1 P R n ops o t h =
  match wantedA ops t o with
  | some true=>match stepR R (evOper P (opnd t) o h) h with
   | some (v,h')=>(putA n t o.dst v).map (·,h')
   | none=>none
  | some false=>(putA n t o.dst (.tup [])).map (·,h)
  | none=>none:=by
 unfold evOp1 stepR
 cases wantedA ops t o with
 | none=>rfl
 | some b =>
  cases b with
  | false=>rfl
  | true =>
   simp only
   cases evOper P (opnd t) o h with
   | none=>rfl
   | some r=>cases r <;> rfl
theorem resK_sound {o:Option ORes} {h:AH} {K:AV→AH→Prop} (hw:bnd o (resK P S h K) ⟨⟩):∃k v h',stepR (evN P S k) o h=some (v,h')∧K v h':=by
 obtain ⟨r,rfl,hr⟩:=hw
 cases r with
 | val v h'=>exact ⟨0,v,h',rfl,hr⟩
 | skip h'=>exact ⟨0,_,h',rfl,hr⟩
 | call f args=>exact hr
 | yield id args=>exact hr
theorem syV_sound {E:Operand→AV} {c:Call} {f:Operand} (hc:c.callee=.value f) {h:AH} {K:AV→AH→Prop} (hw:syV P S (E f) (c.args.toList.map E) h K):∃k v h',stepR (evN P S k) (evCall P h E c) h=some (v,h')∧K v h':=by
 unfold evCall
 simp only [hc]
 unfold syV at hw
 split at hw
 ·rename_i g first captured he;rw [he];exact hw
 ·rename_i fn first captured hne he;rw [he];exact resK_sound hw
 ·rename_i id he;rw [he];exact hw
 ·exact hw.elim
theorem syO_sound {E:Operand→AV} {o:Oper} {h:AH} {K:AV→AH→Prop} (hw:syO P S E o.op h K):∃k v h',stepR (evN P S k) (evOper P E o h) h=some (v,h')∧K v h':=by
 unfold syO at hw
 split at hw
 ·rename_i x ho;exact ⟨0,_,h,by simp [evOper,ho,stepR],hw⟩
 ·rename_i x ho;exact ⟨0,_,h,by simp [evOper,ho,stepR],hw⟩
 ·rename_i c a b ho
  obtain ⟨t,h1,h2,h3⟩:=hw
  cases t with
  | true=>exact ⟨0,_,h,by simp only [evOper,ho,stepR,h1,if_true],h2 rfl⟩
  | false=>exact ⟨0,_,h,by simp only [evOper,ho,stepR,h1];rfl,h3 rfl⟩
 ·rename_i ho;obtain ⟨v,h1,h2⟩:=hw;exact ⟨0,v,h,by simp only [evOper,ho,stepR,h1,val?],h2⟩
 ·rename_i ho;obtain ⟨v,h1,h2⟩:=hw;exact ⟨0,_,v,by simp only [evOper,ho,stepR,h1,Option.map_some],h2⟩
 ·rename_i ho;obtain ⟨v,h1,h2⟩:=hw;exact ⟨0,v,h,by simp only [evOper,ho,stepR,h1,val?],h2⟩
 ·rename_i ho;obtain ⟨v,h1,h2⟩:=hw;exact ⟨0,v,h,by simp only [evOper,ho,stepR,h1,val?],h2⟩
 ·rename_i ho;obtain ⟨v,h1,h2⟩:=hw;exact ⟨0,v,h,by simp only [evOper,ho,stepR,h1,val?],h2⟩
 ·rename_i ho;obtain ⟨v,h1,h2⟩:=hw;exact ⟨0,v,h,by simp only [evOper,ho,stepR,h1,val?],h2⟩
 ·rename_i ho;obtain ⟨v,h1,h2⟩:=hw;exact ⟨0,v,h,by simp only [evOper,ho,stepR,h1,val?],h2⟩
 ·rename_i ho;obtain ⟨v,h1,h2⟩:=hw;exact ⟨0,v,h,by simp only [evOper,ho,stepR,h1,val?],h2⟩
 ·rename_i ho;obtain ⟨v,h1,h2⟩:=hw;exact ⟨0,v,h,by simp only [evOper,ho,stepR,h1,val?],h2⟩
 ·rename_i c ho
  have he:evOper P E o h=evCall P h E c:=by simp only [evOper,ho]
  rw [he]
  split at hw
  ·rename_i f hf;exact syV_sound hf hw
  ·exact resK_sound hw
 ·exact resK_sound hw
theorem syPut_sound {n:Nat} {t:Env} {dst:Option Tmp} {v:AV} {K:Env→Prop} (hp:syPut n t dst v K):∃t',putA n t dst v=some t'∧K t':=by
 unfold syPut at hp
 unfold putA
 cases dst with
 | none=>exact ⟨t,rfl,hp⟩
 | some d=>exact ⟨_,if_pos hp.1,hp.2⟩
theorem ifB_bool {b:Bool} {A B:Prop} (h:ifB (.bool b) A B ⟨⟩ ⟨⟩):(b=true∧A)∨(b=false∧B):=by
 obtain ⟨t,ht,h1,h2⟩:=h
 cases ht
 cases b with
 | true=>exact .inl ⟨rfl,h1 rfl⟩
 | false=>exact .inr ⟨rfl,h2 rfl⟩
theorem sy1_sound' {n:Nat} {ops:Array Oper} {o:Oper} {t:Env} {h:AH} {K:Env→AH→Prop} (hw:sy1 P S n ops o t h K) :
  ∃b,wantedA ops t o=some b∧((b=true∧∃k v h',stepR (evN P S k) (evOper P (opnd t) o h) h=some (v,h')∧syPut n t o.dst v fun t'=>K t' h')∨(b=false∧syPut n t o.dst (.tup []) fun t'=>K t' h)):=by
 unfold sy1 at hw
 split at hw
 ·rename_i hg
  exact ⟨true,by simp [wantedA,hg],.inl ⟨rfl,syO_sound hw⟩⟩
 ·obtain ⟨b,h1,h2⟩:=hw
  rcases ifB_bool h2 with ⟨rfl,h3⟩ | ⟨rfl,h3⟩
  ·exact ⟨true,h1,.inl ⟨rfl,syO_sound h3⟩⟩
  ·exact ⟨false,h1,.inr ⟨rfl,h3⟩⟩
theorem sy1_sound {n:Nat} {ops:Array Oper} {o:Oper} {t:Env} {h:AH} {K:Env→AH→Prop} (hw:sy1 P S n ops o t h K):∃k t' h',evOp1 P (evN P S k) n ops o t h=some (t',h')∧K t' h':=by
 obtain ⟨b,h1,h2⟩:=sy1_sound' hw
 rcases h2 with ⟨rfl,k,v,h',h3,h4⟩ | ⟨rfl,h3⟩
 ·obtain ⟨t',h5,h6⟩:=syPut_sound h4
  exact ⟨k,t',h',by rw [evOp1_eq,h1];simp only [h3,h5,Option.map_some],h6⟩
 ·obtain ⟨t',h5,h6⟩:=syPut_sound h3
  exact ⟨0,t',h,by rw [evOp1_eq,h1];simp only [h5,Option.map_some],h6⟩
theorem evOps_cons {R:Rec} {n:Nat} {ops:Array Oper} {o:Oper} {r:List Oper} {t t':Env} {h h':AH} (h1:evOp1 P R n ops o t h=some (t',h')):evOps P R n ops (o::r) t h=evOps P R n ops r t' h':=by
 rw [evOps,h1]
theorem syOps_sound {n:Nat} {ops:Array Oper}:∀ {l:List Oper} {t:Env} {h:AH} {K:Env→AH→Prop},syOps P S n ops l t h K→∃k t' h',evOps P (evN P S k) n ops l t h=some (t',h')∧K t' h'
 | [],t,h,K,hw=>⟨0,t,h,rfl,hw⟩
 | o::r,t,h,K,hw=>by
  obtain ⟨k1,t1,h1,e1,hw1⟩:=sy1_sound hw
  obtain ⟨k2,t2,h2,e2,hw2⟩:=syOps_sound hw1
  refine ⟨max k1 k2,t2,h2,?_,hw2⟩
  rw [evOps_cons (evOp1_mono (evN_mono (Nat.le_max_left k1 k2)) e1)]
  exact evOps_mono (evN_mono (Nat.le_max_right k1 k2)) e2
theorem evOper_congr {E E':Operand→AV} {o:Oper} (hE:∀x∈o.op.operands,E x=E' x) (h:AH):evOper P E o h=evOper P E' o h:=by
 obtain ⟨dst,op,ty,pos,after,guard⟩:=o
 simp only at hE
 have hl:∀(l:Array (Nat×Operand)),(∀x∈(l.toList.map (·.2)).toArray,E x=E' x)→(l.toList.map fun (i,x)=>(i,E x))=(l.toList.map fun (i,x)=>(i,E' x)):=fun l hx=>by
  refine List.map_congr_left fun a ha=>?_
  obtain ⟨i,x⟩:=a
  simp only
  rw [hx x (by simp only [List.mem_toArray,List.mem_map];exact ⟨_,ha,rfl⟩)]
 have ha:∀(l:Array Operand),(∀x∈l,E x=E' x)→l.toList.map E=l.toList.map E':=fun l hx=>List.map_congr_left fun a ha=>hx a (by simpa using ha)
 cases op <;> simp only [Op.operands] at hE <;> simp only [evOper,allocA]
 case call c =>
  simp only [Call.operands] at hE
  unfold evCall
  have hargs:c.args.toList.map E=c.args.toList.map E':=ha _ fun x hx=>hE x (by simp [hx])
  rw [hargs]
  cases hc:c.callee with
  | builtin b=>rfl
  | invoke r name=>simp only [hc] at hE;simp only [hE r (by simp)]
  | value f=>simp only [hc] at hE;simp only [hE f (by simp)]
 case build t parts=>rw [hl parts hE]
 case buildSlice t n parts=>rw [hl parts hE]
 case makeFunc fn first captured =>
  rw [ha first fun x hx=>hE x (by simp [hx]),ha captured fun x hx=>hE x (by simp [hx])]
 case slice t x lo hi mx =>
  have h1:lo.map E=lo.map E':=by cases lo with
   | none=>rfl
   | some a=>simp [hE a (by simp)]
  have h2:hi.map E=hi.map E':=by cases hi with
   | none=>rfl
   | some a=>simp [hE a (by simp)]
  have h3:mx.map E=mx.map E':=by cases mx with
   | none=>rfl
   | some a=>simp [hE a (by simp)]
  rw [hE x (by simp),h1,h2,h3]
 case makeMap t r =>
  have h1:r.map E=r.map E':=by cases r with
   | none=>rfl
   | some a=>simp [hE a (by simp)]
  rw [h1]
 all_goals first
  | rfl
  | (simp at hE;simp only [hE])
theorem opnd_restr {t:Env} {l:List Tmp} {x:Operand} (hx:∀i,x=.tmp i→i∈l):opnd (restr t l .nil) x=opnd t x:=by
 have key:∀(l:List Tmp) (e:Env) (i:Nat),(restr t l e).get i=if i∈l then (match t.get i with | some v=>some v | none=>e.get i) else e.get i:=by
  intro l
  induction l with
  | nil=>intro e i;simp [restr]
  | cons d l ih =>
   intro e i
   simp only [restr]
   rw [ih]
   by_cases hd:i=d
   ·subst hd
    cases ht:t.get i with
    | none=>simp [ht]
    | some v=>simp [ht,Tr.get_set]
   ·cases t.get d with
    | none=>simp [hd]
    | some v=>simp [hd,Tr.get_set]
 cases x with
 | tmp i =>
  simp only [opnd]
  rw [key,if_pos (hx i rfl)]
  cases t.get i with
  | none=>simp [Tr.get_nil]
  | some v=>rfl
 | const v=>rfl
 | global g=>rfl
 | func f=>rfl
theorem mem_looksAt {ops:Array Oper} {o:Oper} {x:Operand} (hx:x∈o.op.operands):∀i,x=.tmp i→i∈o.looksAt ops:=by
 rintro i rfl
 unfold Oper.looksAt
 refine List.mem_append_left _ (List.mem_filterMap.2 ⟨_,by simpa using hx,rfl⟩)
theorem evOper_restr {ops:Array Oper} {o:Oper} {t:Env} {h:AH}:evOper P (opnd (restr t (o.looksAt ops) .nil)) o h=evOper P (opnd t) o h :=
 evOper_congr (fun x hx=>opnd_restr (mem_looksAt hx)) h
theorem allocA_restr {ops:Array Oper} {o:Oper} {t:Env}:allocA P (opnd (restr t (o.looksAt ops) .nil)) o.op=allocA P (opnd t) o.op:=by
 have hE:∀x∈o.op.operands,opnd (restr t (o.looksAt ops) .nil) x=opnd t x:=fun x hx=>opnd_restr (mem_looksAt hx)
 revert hE
 generalize opnd (restr t (o.looksAt ops) .nil)=E
 generalize opnd t=E'
 intro hE
 have hl:∀(l:Array (Nat×Operand)),(∀x∈(l.toList.map (·.2)).toArray,E x=E' x)→(l.toList.map fun (i,x)=>(i,E x))=(l.toList.map fun (i,x)=>(i,E' x)):=fun l hx=>by
  refine List.map_congr_left fun a ha=>?_
  obtain ⟨i,x⟩:=a
  simp only
  rw [hx x (by simp only [List.mem_toArray,List.mem_map];exact ⟨_,ha,rfl⟩)]
 cases hop:o.op <;> rw [hop] at hE <;> simp only [Op.operands] at hE <;> simp only [allocA]
 case buildSlice t n parts=>rw [hl parts hE]
 case makeMap t r =>
  have h1:r.map E=r.map E':=by cases r with
   | none=>rfl
   | some a=>simp [hE a (by simp)]
  rw [h1]
 all_goals first
  | rfl
  | (simp at hE;simp only [hE])
theorem wantedA_restr {ops:Array Oper} {o:Oper} {t:Env}:wantedA ops (restr t (o.looksAt ops) .nil) o=wantedA ops t o:=by
 unfold wantedA
 cases hg:o.guard with
 | none=>rfl
 | some p =>
  obtain ⟨j,w⟩:=p
  simp only
  cases hd:(ops[j]?).bind (·.dst) with
  | none=>rfl
  | some d =>
   simp only
   have hm:d∈o.looksAt ops:=by
    unfold Oper.looksAt
    refine List.mem_append_right _ ?_
    rw [hg]
    simp [hd]
   have h1:=opnd_restr (t:=t) (l:=o.looksAt ops) (x:=.tmp d) (by rintro i h;cases h;exact hm)
   simp only [opnd] at h1
   cases ht:t.get d with
   | none =>
    rw [ht] at h1
    cases hr:(restr t (o.looksAt ops) .nil).get d with
    | none=>rfl
    | some v=>have:=(restr_get hr).2;rw [ht] at this;cases this
   | some v =>
    cases hr:(restr t (o.looksAt ops) .nil).get d with
    | none=>rw [ht,hr] at h1;simp at h1;rw [←h1]
    | some u=>have:=(restr_get hr).2;rw [ht] at this;cases this;rfl
theorem backA_put {n:Nat} {t u t':Env} {dst:Option Tmp} {v:AV} (hp:putA n u dst v=some t'):∃t2,putA n t dst v=some t2∧backA t dst t'=t2:=by
 unfold putA at hp ⊢
 unfold backA
 cases dst with
 | none=>exact ⟨t,rfl,rfl⟩
 | some d =>
  simp only at hp ⊢
  split at hp
  ·rename_i hd
   rw [if_pos hd]
   cases hp
   exact ⟨_,rfl,by rw [Tr.get_set,if_pos rfl]⟩
  ·cases hp
theorem evOp1_draw {R:Rec} {n:Nat} {ops:Array Oper} {o:Oper} {t t':Env} {h h':AH} (hx:evOp1 P R n ops o t h=some (t',h')) :
  ∃t1,evOp1 P R n ops o (restr t (o.looksAt ops) .nil) h=some (t1,h')∧backA t o.dst t1=t':=by
 rw [evOp1_eq] at hx ⊢
 rw [wantedA_restr,evOper_restr]
 cases hw:wantedA ops t o with
 | none=>rw [hw] at hx;cases hx
 | some b =>
  rw [hw] at hx
  have put:∀v h2,(putA n t o.dst v).map (fun x=>(x,h2))=some (t',h')→∃t1,(putA n (restr t (o.looksAt ops) .nil) o.dst v).map (fun x=>(x,h2))=some (t1,h')∧backA t o.dst t1=t':=by
   intro v h2 hp
   cases hq:putA n t o.dst v with
   | none=>rw [hq] at hp;cases hp
   | some t2 =>
    rw [hq] at hp
    cases hp
    obtain ⟨t3,h3,_⟩:=backA_put (t:=restr t (o.looksAt ops) .nil) hq
    obtain ⟨t4,h4,h5⟩:=backA_put (t:=t) h3
    rw [hq] at h4
    cases h4
    exact ⟨t3,by rw [h3];rfl,h5⟩
  cases b with
  | false=>exact put _ _ hx
  | true =>
   simp only at hx ⊢
   cases hs:stepR R (evOper P (opnd t) o h) h with
   | none=>rw [hs] at hx;cases hx
   | some y=>obtain ⟨v,h2⟩:=y;rw [hs] at hx;exact put _ _ hx
theorem syDS_sound {n:Nat} {ops:Array Oper} {base i:Nat} {o:Oper} {s:DS} {K:Env→AH→List (Nat×AO)→Prop} (hw:syDS P S n ops base i o s.t s.h s.pend K):∃k s',drawStep P (evN P S k) n ops base i o s=some s'∧K s'.t s'.h s'.pend:=by
 unfold syDS at hw
 unfold drawStep
 generalize clsOf P o.op=c at hw
 unfold clsK at hw
 split at hw
 ·obtain ⟨b,h1,h2⟩:=hw
  simp only [wantedA_restr,allocA_restr,h1]
  rcases ifB_bool h2 with ⟨rfl,h3⟩ | ⟨rfl,h3⟩
  ·obtain ⟨⟨ob,mk⟩,h4,h5⟩:=h3
   obtain ⟨t',h6,h7⟩:=syPut_sound h5
   simp only at h6 h7
   exact ⟨0,{ t:=t',h:=s.h,pend:=s.pend++[(base+i,ob)] },by simp only [h4,h6],h7⟩
  ·obtain ⟨t',h6,h7⟩:=syPut_sound h3
   exact ⟨0,{ t:=t',h:=s.h,pend:=s.pend },by simp only [h6],h7⟩
 ·obtain ⟨k,t',h',h1,h2⟩:=sy1_sound hw
  obtain ⟨t1,h3,h4⟩:=evOp1_draw h1
  exact ⟨k,{ t:=backA s.t o.dst t1,h:=h',pend:=[] },by simp only [h3],by rw [h4];exact h2⟩
 ·rename_i n2 n3
  obtain ⟨k,t',h',h1,h2⟩:=sy1_sound hw
  obtain ⟨t1,h3,h4⟩:=evOp1_draw h1
  refine ⟨k,{ t:=backA s.t o.dst t1,h:=s.h,pend:=s.pend },?_,by rw [h4];exact h2⟩
  split
  ·exact absurd rfl n2
  ·exact absurd rfl n3
  ·simp only [h3]
theorem syGo_sound {n:Nat} {ops:Array Oper} {base:Nat}:∀ {l:List Oper} {i:Nat} {s:DS} {acc:List DS} {K:List DS→Env→AH→Prop},syGo P S n ops base l i s.t s.h s.pend acc K →
  ∃k ss s',drawGo P (evN P S k) n ops base l i s=some ss∧ss[l.length]? = some s'∧K (acc++ss) s'.t (absorb s'.pend s'.h)
 | [],i,s,acc,K,hw=>⟨0,[s],s,rfl,rfl,hw⟩
 | o::r,i,s,acc,K,hw=>by
  obtain ⟨k1,s1,e1,hw1⟩:=syDS_sound hw
  obtain ⟨k2,ss,s2,e2,e3,hw2⟩:=syGo_sound hw1
  refine ⟨max k1 k2,s::ss,s2,?_,by simpa using e3,by simpa using hw2⟩
  unfold drawGo
  rw [drawStep_mono (evN_mono (Nat.le_max_left k1 k2)) e1]
  simp only
  rw [drawGo_mono (evN_mono (Nat.le_max_right k1 k2)) e2]
theorem syDraw_sound {n:Nat} {ops:Array Oper} {t:Env} {h:AH} {K:Env→AH→Prop} (hw:syDraw P S n ops t h K ⟨⟩ ⟨⟩ ⟨⟩ ⟨⟩):∃k t' h',evDraw P (evN P S k) n ops t h=some (t',h')∧K t' h':=by
 obtain ⟨hf,prs,h1,h2⟩:=hw
 obtain ⟨k,ss,s',e1,e2,e3,e4⟩:=syGo_sound (s:={ t,h:={ tr:=h.tr,nx:=h.nx+ops.size },pend:=[] }) h2
 refine ⟨k,s'.t,absorb s'.pend s'.h,?_,e4⟩
 unfold evDraw
 rw [if_pos hf,h1]
 simp only
 rw [e1]
 simp only
 rw [if_pos (sameAll_mono (evN_mono (Nat.zero_le k)) (by simpa using e3))]
 rw [show ss[ops.size]? = some s' from e2]
def stat0 (P:Program) (ops:Array Oper):Bool :=
 match statGo P ops ops.toList 0 [] [] [] with
 | some []=>P.follows .mixedOrders
 | _=>false
theorem syC_sound {r:Option Nat} {fn:FuncId} {n:Nat}:∀ {c:Code} {s:St} {Q:Ex→St→Prop},syC P S r fn n c s Q→∃k ex s',evCode P (evN P S k) r fn n c s=some (ex,s')∧Q ex s':=by
 intro c
 induction c with
 | skip=>intro s Q hw;exact ⟨0,_,_,rfl,hw⟩
 | label l=>intro s Q hw;exact ⟨0,_,_,rfl,hw⟩
 | region id ops d =>
  intro s Q hw
  cases d with
  | false =>
   obtain ⟨k,t',h',h1,h2⟩:=syOps_sound hw
   exact ⟨k,_,_,by unfold evCode;rw [h1],h2⟩
  | true =>
   obtain ⟨k,t',h',h1,h2⟩:=syDraw_sound hw
   exact ⟨k,_,_,by unfold evCode;rw [h1],h2⟩
 | seq a b iha ihb =>
  intro s Q hw
  obtain ⟨k1,ex,s1,e1,hw1⟩:=iha hw
  cases ex with
  | normal =>
   obtain ⟨k2,ex2,s2,e2,hw2⟩:=ihb hw1
   refine ⟨max k1 k2,ex2,s2,?_,hw2⟩
   unfold evCode
   rw [evCode_mono (evN_mono (Nat.le_max_left k1 k2)) e1]
   exact evCode_mono (evN_mono (Nat.le_max_right k1 k2)) e2
  | exit i=>exact ⟨k1,_,_,by unfold evCode;rw [e1],hw1⟩
  | ret=>exact ⟨k1,_,_,by unfold evCode;rw [e1],hw1⟩
 | cond c a b iha ihb =>
  intro s Q hw
  obtain ⟨t,h1,h2,h3⟩:=hw
  cases t with
  | true=>obtain ⟨k,ex,s',e1,e2⟩:=iha (h2 rfl);exact ⟨k,ex,s',by unfold evCode;rw [h1];exact e1,e2⟩
  | false=>obtain ⟨k,ex,s',e1,e2⟩:=ihb (h3 rfl);exact ⟨k,ex,s',by unfold evCode;rw [h1];exact e1,e2⟩
 | block id c ih =>
  intro s Q hw
  obtain ⟨k,ex,s',e1,e2⟩:=ih hw
  cases ex with
  | normal=>exact ⟨k,_,_,by unfold evCode;rw [e1],e2⟩
  | exit j=>exact ⟨k,_,_,by unfold evCode;rw [e1],e2⟩
  | ret=>exact ⟨k,_,_,by unfold evCode;rw [e1],e2⟩
 | loop c ih=>intro s Q hw;exact hw
 | rangeFunc g ps a b iha ihb =>
  intro s Q hw
  obtain ⟨⟨d,h1,ds⟩,e1,e2⟩:=hw
  change rngK P S s.t fn n ps a b Q (d,h1,ds) (opnd s.t g) at e2
  unfold rngK at e2
  split at e2
  ·rename_i f first captured hg
   obtain ⟨e3,k,v,h3,e4,⟨ex,s'⟩,e5,e6⟩:=e2
   refine ⟨k,ex,s',?_,e6⟩
   unfold evCode
   rw [e1]
   simp only
   rw [hg]
   simp only
   rw [if_pos e3,e4]
   exact e5
  ·exact e2.elim
 | exit id=>intro s Q hw;exact ⟨0,_,_,rfl,hw⟩
 | scope c ih =>
  intro s Q hw
  obtain ⟨k,ex,s',e1,e2⟩:=ih hw
  exact ⟨k,ex,s',by unfold evCode;exact e1,e2⟩
 | goto l=>intro s Q hw;exact hw.elim
 | ret=>intro s Q hw;exact ⟨0,_,_,rfl,hw⟩
 | refuse w=>intro s Q hw;exact hw.elim
def syEnd (P:Program) (rs:List ResultVar) (Q:AV→AH→Prop) (ex:Ex) (s:St):Prop :=
 match ex with
 | .exit _=>False
 | _=>bnd (takeMarks s.d s.h) (fun h'=>bnd (resultsA P h' s.t rs) (fun v=>Q v h') ⟨⟩) ⟨⟩
theorem RnC.enter {f:FuncId} {args:List AV} {h:AH} {Q:AV→AH→Prop} (fn:Func) (c:Code) (hs:S f args h=none) (hb:bodied P f=true) (hf:P.funcs[f]? = some fn) (hc:fn.body=some c)
  (hw:syC P S none f (nTmps fn args) c { t:=argsEnv args 0 .nil,h,d:=[] } (syEnd P fn.results.toList Q)):RnC P S f args h Q:=by
 obtain ⟨k,ex,s,h1,h2⟩:=syC_sound hw
 refine ⟨k+1,?_⟩
 show ∃v h',evFn P S (evN P S k) f args h=some (v,h')∧Q v h'
 unfold evFn
 rw [hs]
 simp only
 rw [if_neg (by simp [hb]),hf]
 simp only
 rw [hc]
 simp only
 rw [h1]
 cases ex with
 | exit i=>exact h2.elim
 | normal=>obtain ⟨h',e1,v,e2,e3⟩:=h2;exact ⟨v,h',by simp only [e1,e2,Option.map_some],e3⟩
 | ret=>obtain ⟨h',e1,v,e2,e3⟩:=h2;exact ⟨v,h',by simp only [e1,e2,Option.map_some],e3⟩
theorem RnL.rounds {r:Option Nat} {fn:FuncId} {n:Nat} {c:Code} {Q:Ex→St→Prop} (I:Nat→St→Prop)
  (step:∀m s,I m s→syC P S r fn n c s (thenK (fun s'=>∃m',m'<m∧I m' s') Q)):∀(m:Nat) {s:St},I m s→RnL P S r fn n c s Q:=by
 intro m
 induction m using Nat.strongRecOn with
 | _ m ih =>
  intro s hI
  obtain ⟨k1,ex,s1,e1,hw⟩:=syC_sound (step m s hI)
  cases ex with
  | normal =>
   obtain ⟨m',hm,hI'⟩:=hw
   obtain ⟨k2,ex2,s2,e2,hq⟩:=ih m' hm hI'
   refine ⟨max k1 k2+1,ex2,s2,?_,hq⟩
   show (match evCode P (evN P S (max k1 k2)) r fn n c s with | some (.normal,s')=>(evN P S (max k1 k2)).loop r fn n c s' | x=>x)=some (ex2,s2)
   rw [evCode_mono (evN_mono (Nat.le_max_left k1 k2)) e1]
   exact (evN_mono (Nat.le_max_right k1 k2)).loop _ _ _ _ _ _ e2
  | exit i =>
   refine ⟨k1+1,_,s1,?_,hw⟩
   show (match evCode P (evN P S k1) r fn n c s with | some (.normal,s')=>(evN P S k1).loop r fn n c s' | x=>x)=some (.exit i,s1)
   rw [e1]
  | ret =>
   refine ⟨k1+1,_,s1,?_,hw⟩
   show (match evCode P (evN P S k1) r fn n c s with | some (.normal,s')=>(evN P S k1).loop r fn n c s' | x=>x)=some (.ret,s1)
   rw [e1]
end
section
variable {P : Program} {S : Sums}
theorem bnd_some {α:Type} (a:α) (K:α→Prop) (u:Blk K):bnd (some a) K u=K a:=propext ⟨fun ⟨b,h1,h2⟩=>by cases h1;exact h2,fun h=>⟨a,rfl,h⟩⟩
theorem ltv_eq {α:Type} (v:α) (K:α→Prop) (u:Blk K):ltv v K u=K v:=propext Iff.rfl
theorem chk_true (K:Prop) (u:Blk K):chk True K u=K:=propext ⟨fun h=>h.2,fun h=>⟨trivial,h⟩⟩
theorem ifB_true (A B:Prop) (u:Blk A) (v:Blk B):ifB (.bool true) A B u v=A:=propext ⟨fun ⟨t,h1,h2,h3⟩=>by cases h1;exact h2 rfl,fun h=>⟨true,rfl,fun _=>h,(fun e=>by cases e)⟩⟩
theorem ifB_false (A B:Prop) (u:Blk A) (v:Blk B):ifB (.bool false) A B u v=B:=propext ⟨fun ⟨t,h1,h2,h3⟩=>by cases h1;exact h3 rfl,fun h=>⟨false,rfl,(fun e=>by cases e),fun _=>h⟩⟩
theorem clsK_0 (A B C:Prop) (u:Blk A) (v:Blk B) (w:Blk C):clsK 0 A B C u v w=C:=propext Iff.rfl
theorem clsK_1 (A B C:Prop) (u:Blk A) (v:Blk B) (w:Blk C):clsK 1 A B C u v w=C:=propext Iff.rfl
theorem clsK_2 (A B C:Prop) (u:Blk A) (v:Blk B) (w:Blk C):clsK 2 A B C u v w=A:=propext Iff.rfl
theorem clsK_3 (A B C:Prop) (u:Blk A) (v:Blk B) (w:Blk C):clsK 3 A B C u v w=B:=propext Iff.rfl
theorem clsK_low {c:Nat} (hc:c=0∨c=1) (A B C:Prop) (u:Blk A) (v:Blk B) (w:Blk C):clsK c A B C u v w=C:=by rcases hc with rfl | rfl <;> rfl
theorem clsK_bin (op:BinOp) (t:TypeId) (x y:Operand) (z:TypeId) (A B C:Prop) (u:Blk A) (v:Blk B) (w:Blk C):clsK (clsOf P (.binOp op t x y z)) A B C u v w=C :=
 clsK_low (by simp only [clsOf];split <;> simp) A B C u v w
theorem clsK_slice (t:TypeId) (x:Operand) (a b c:Option Operand) (A B C:Prop) (u:Blk A) (v:Blk B) (w:Blk C):clsK (clsOf P (.slice t x a b c)) A B C u v w=C :=
 clsK_low (by simp only [clsOf];split <;> simp) A B C u v w
theorem resK_val (h:AH) (K:AV→AH→Prop) (v:AV) (h':AH):resK P S h K (.val v h')=ltv v (fun v=>K v h') ⟨⟩:=propext Iff.rfl
theorem resK_skip (h:AH) (K:AV→AH→Prop) (h':AH):resK P S h K (.skip h')=K (.tup []) h':=propext Iff.rfl
theorem resK_call (h:AH) (K:AV→AH→Prop) (f:FuncId) (a:List AV):resK P S h K (.call f a)=callK P S f a h K ⟨⟩:=propext Iff.rfl
theorem resK_yield (h:AH) (K:AV→AH→Prop) (f:Nat) (a:List AV):resK P S h K (.yield f a)=yldK P S f a h K ⟨⟩:=propext Iff.rfl
theorem syV_func (g:FuncId) (first captured args:List AV) (h:AH) (K:AV→AH→Prop):syV P S (.func (.func g) first captured) args h K=callK P S g (first++args++captured) h K ⟨⟩:=propext Iff.rfl
theorem syV_yld (l:Nat) (args:List AV) (h:AH) (K:AV→AH→Prop):syV P S (.yld l) args h K=yldK P S l args h K ⟨⟩:=propext Iff.rfl
theorem syO_move (E:Operand→AV) (x:Operand) (h:AH) (K:AV→AH→Prop):syO P S E (.move x) h K=ltv (E x) (fun v=>K v h) ⟨⟩:=propext Iff.rfl
theorem syO_assign (E:Operand→AV) (x:Operand) (h:AH) (K:AV→AH→Prop):syO P S E (.assign x) h K=ltv (E x) (fun v=>K v h) ⟨⟩:=propext Iff.rfl
theorem syO_pick (E:Operand→AV) (c a b:Operand) (h:AH) (K:AV→AH→Prop):syO P S E (.pick c a b) h K=ifB (E c) (ltv (E a) (fun v=>K v h) ⟨⟩) (ltv (E b) (fun v=>K v h) ⟨⟩) ⟨⟩ ⟨⟩:=propext Iff.rfl
theorem syO_load (E:Operand→AV) (t:TypeId) (a:Operand) (h:AH) (K:AV→AH→Prop):syO P S E (.load t a) h K=bnd (evLoad P h t (E a)) (fun v=>K v h) ⟨⟩:=propext Iff.rfl
theorem syO_store (E:Operand→AV) (t:TypeId) (a x:Operand) (h:AH) (K:AV→AH→Prop):syO P S E (.store t a x) h K=bnd (evStore P h t (E a) (E x)) (fun h'=>K (.tup []) h') ⟨⟩:=propext Iff.rfl
theorem syO_build (E:Operand→AV) (t:TypeId) (ps:List (Nat×Operand)) (h:AH) (K:AV→AH→Prop):syO P S E (.build t ps.toArray) h K=bnd (evBuild P t (ps.map fun (i,x)=>(i,E x))) (fun v=>K v h) ⟨⟩:=propext Iff.rfl
theorem syO_binOp (E:Operand→AV) (op:BinOp) (t:TypeId) (x y:Operand) (u:TypeId) (h:AH) (K:AV→AH→Prop):syO P S E (.binOp op t x y u) h K=bnd (binA P h op t (E x) (E y)) (fun v=>K v h) ⟨⟩:=propext Iff.rfl
theorem syO_unOp (E:Operand→AV) (op:UnOp) (t:TypeId) (x:Operand) (h:AH) (K:AV→AH→Prop):syO P S E (.unOp op t x) h K=bnd (unA op (E x)) (fun v=>K v h) ⟨⟩:=propext Iff.rfl
theorem syO_slice (E:Operand→AV) (t:TypeId) (x:Operand) (lo hi mx:Option Operand) (h:AH) (K:AV→AH→Prop):syO P S E (.slice t x lo hi mx) h K=bnd (evSlice P h t (E x) (lo.map E) (hi.map E) (mx.map E)) (fun v=>K v h) ⟨⟩:=propext Iff.rfl
theorem syO_indexAddr (E:Operand→AV) (t:TypeId) (x i:Operand) (h:AH) (K:AV→AH→Prop):syO P S E (.indexAddr t x i) h K=bnd (evIndexAddr P t (E x) (E i)) (fun v=>K v h) ⟨⟩:=propext Iff.rfl
theorem syO_index (E:Operand→AV) (t:TypeId) (x i:Operand) (h:AH) (K:AV→AH→Prop):syO P S E (.index t x i) h K=bnd (evIndex P t (E x) (E i)) (fun v=>K v h) ⟨⟩:=propext Iff.rfl
theorem syO_lookup (E:Operand→AV) (t:TypeId) (x i:Operand) (ok:Bool) (h:AH) (K:AV→AH→Prop):syO P S E (.lookup t x i ok) h K=bnd (evLookup P h t (E x) (E i) ok) (fun v=>K v h) ⟨⟩:=propext Iff.rfl
theorem syO_call (E:Operand→AV) (f:Operand) (args:List Operand) (ty:Array TypeId) (h:AH) (K:AV→AH→Prop):syO P S E (.call { callee:=.value f,args:=args.toArray,argTypes:=ty }) h K=ltv (E f) (fun fv=>ltv (args.map E) (fun args=>syV P S fv args h K) ⟨⟩) ⟨⟩:=propext Iff.rfl
theorem syO_builtin (E:Operand→AV) (b:Builtin) (args:List Operand) (ty:List TypeId) (h:AH) (K:AV→AH→Prop):syO P S E (.call { callee:=.builtin b,args:=args.toArray,argTypes:=ty.toArray }) h K=bnd (evCall P h E { callee:=.builtin b,args:=args.toArray,argTypes:=ty.toArray }) (resK P S h K) ⟨⟩:=propext Iff.rfl
theorem syO_alloc (E:Operand→AV) (e:TypeId) (h:AH) (K:AV→AH→Prop):syO P S E (.alloc e) h K=bnd (allocated h (allocA P E (.alloc e))) (resK P S h K) ⟨⟩:=propext Iff.rfl
theorem syO_box (E:Operand→AV) (e:TypeId) (x:Operand) (h:AH) (K:AV→AH→Prop):syO P S E (.box e x) h K=bnd (allocated h (allocA P E (.box e x))) (resK P S h K) ⟨⟩:=propext Iff.rfl
theorem syO_buildSlice (E:Operand→AV) (t:TypeId) (n:Nat) (ps:List (Nat×Operand)) (h:AH) (K:AV→AH→Prop):syO P S E (.buildSlice t n ps.toArray) h K=bnd (allocated h (allocA P E (.buildSlice t n ps.toArray))) (resK P S h K) ⟨⟩:=propext Iff.rfl
theorem syO_makeMap (E:Operand→AV) (t:TypeId) (r:Option Operand) (h:AH) (K:AV→AH→Prop):syO P S E (.makeMap t r) h K=bnd (allocated h (allocA P E (.makeMap t r))) (resK P S h K) ⟨⟩:=propext Iff.rfl
theorem syO_makeSlice (E:Operand→AV) (t:TypeId) (l c:Operand) (h:AH) (K:AV→AH→Prop):syO P S E (.makeSlice t l c) h K=bnd (allocated h (allocA P E (.makeSlice t l c))) (resK P S h K) ⟨⟩:=propext Iff.rfl
theorem syO_nilCheck (E : Operand → AV) (x : Operand) (h : AH) (K : AV → AH → Prop) : syO P S E (.nilCheck x) h K = bnd (evOper P E { dst := none, op := .nilCheck x, type := 0, pos := "", after := #[], guard := none } h) (resK P S h K) ⟨⟩ := propext Iff.rfl
theorem syO_convert (E:Operand→AV) (s d:TypeId) (x:Operand) (h:AH) (K:AV→AH→Prop):syO P S E (.convert s d x) h K=bnd (evConvert P h s d (E x)) (resK P S h K) ⟨⟩:=propext Iff.rfl
theorem syO_makeInterface (E : Operand → AV) (t : TypeId) (x : Operand) (h : AH) (K : AV → AH → Prop) : syO P S E (.makeInterface t x) h K = bnd (evOper P E { dst := none, op := .makeInterface t x, type := 0, pos := "", after := #[], guard := none } h) (resK P S h K) ⟨⟩ := propext Iff.rfl
theorem syO_makeFunc (E:Operand→AV) (fn:Fn) (a c:List Operand) (h:AH) (K:AV→AH→Prop):syO P S E (.makeFunc fn a.toArray c.toArray) h K=chk (plainFn fn=true) (ltv (.func fn (a.map E) (c.map E)) (fun v=>K v h) ⟨⟩) ⟨⟩:=by
 unfold syO
 simp only [evOper]
 cases hp:plainFn fn with
 | true=>simp [chk,bnd,resK,ltv]
 | false=>simp [chk,bnd]
theorem syO_fieldAddr (E : Operand → AV) (t : TypeId) (x : Operand) (f : Nat) (h : AH) (K : AV → AH → Prop) : syO P S E (.fieldAddr t x f) h K = bnd (evOper P E { dst := none, op := .fieldAddr t x f, type := 0, pos := "", after := #[], guard := none } h) (resK P S h K) ⟨⟩ := propext Iff.rfl
theorem syO_field (E : Operand → AV) (t : TypeId) (x : Operand) (f : Nat) (h : AH) (K : AV → AH → Prop) : syO P S E (.field t x f) h K = bnd (evOper P E { dst := none, op := .field t x f, type := 0, pos := "", after := #[], guard := none } h) (resK P S h K) ⟨⟩ := propext Iff.rfl
theorem syO_mapUpdate (E:Operand→AV) (t:TypeId) (m k x:Operand) (h:AH) (K:AV→AH→Prop):syO P S E (.mapUpdate t m k x) h K=bnd (evMapUpdate P h t (E m) (E k) (E x)) (resK P S h K) ⟨⟩:=propext Iff.rfl
theorem syO_insert (E:Operand→AV) (t:TypeId) (m k x:Operand) (h:AH) (K:AV→AH→Prop):syO P S E (.insert t m k x) h K=bnd (evMapUpdate P h t (E m) (E k) (E x)) (resK P S h K) ⟨⟩:=propext Iff.rfl
theorem syO_typeAssert (E : Operand → AV) (x : Operand) (t a : TypeId) (ok : Bool) (h : AH) (K : AV → AH → Prop) : syO P S E (.typeAssert x t a ok) h K = bnd (evOper P E { dst := none, op := .typeAssert x t a ok, type := 0, pos := "", after := #[], guard := none } h) (resK P S h K) ⟨⟩ := propext Iff.rfl
theorem syO_extract (E : Operand → AV) (x : Operand) (i : Nat) (h : AH) (K : AV → AH → Prop) : syO P S E (.extract x i) h K = bnd (evOper P E { dst := none, op := .extract x i, type := 0, pos := "", after := #[], guard := none } h) (resK P S h K) ⟨⟩ := propext Iff.rfl
theorem syPut_none (n:Nat) (t:Env) (v:AV) (K:Env→Prop):syPut n t none v K=K t:=propext Iff.rfl
theorem syPut_some (n:Nat) (t:Env) (d:Tmp) (v:AV) (K:Env→Prop):syPut n t (some d) v K=chk (d<n) (K (t.set d (some v))) ⟨⟩:=propext Iff.rfl
theorem sy1_none (n:Nat) (ops:Array Oper) (dst:Option Tmp) (op:Op) (ty:TypeId) (pos:String) (after:Array Edge) (t:Env) (h:AH) (K:Env→AH→Prop) :
  sy1 P S n ops { dst,op,type:=ty,pos,after,guard:=none } t h K=syO P S (opnd t) op h fun v h'=>syPut n t dst v fun t'=>K t' h':=rfl
theorem sy1_some (n:Nat) (ops:Array Oper) (dst:Option Tmp) (op:Op) (ty:TypeId) (pos:String) (after:Array Edge) (g:Nat×Bool) (t:Env) (h:AH) (K:Env→AH→Prop) :
  sy1 P S n ops { dst,op,type:=ty,pos,after,guard:=some g } t h K=bnd (wantedA ops t { dst,op:=.move (.tmp 0),type:=ty,pos,after,guard:=some g }) (fun b=>ifB (.bool b) (syO P S (opnd t) op h fun v h'=>syPut n t dst v fun t'=>K t' h') (syPut n t dst (.tup []) fun t'=>K t' h) ⟨⟩ ⟨⟩) ⟨⟩:=rfl
theorem syOps_nil (n:Nat) (ops:Array Oper) (t:Env) (h:AH) (K:Env→AH→Prop):syOps P S n ops [] t h K=K t h:=propext Iff.rfl
theorem syOps_cons (n:Nat) (ops:Array Oper) (o:Oper) (r:List Oper) (t:Env) (h:AH) (K:Env→AH→Prop):syOps P S n ops (o::r) t h K=sy1 P S n ops o t h fun t' h'=>syOps P S n ops r t' h' K:=propext Iff.rfl
theorem syGo0_nil (n:Nat) (ops:Array Oper) (base i:Nat) (t:Env) (h:AH) (pend:List (Nat×AO)) (K:Env→AH→Prop):syGo0 P S n ops base [] i t h pend K=K t (absorb pend h):=propext Iff.rfl
theorem syGo0_cons (n:Nat) (ops:Array Oper) (base i:Nat) (o:Oper) (r:List Oper) (t:Env) (h:AH) (pend:List (Nat×AO)) (K:Env→AH→Prop) :
  syGo0 P S n ops base (o::r) i t h pend K=syDS P S n ops base i o t h pend fun t' h' pend'=>syGo0 P S n ops base r (i+1) t' h' pend' K:=rfl
theorem syDS_none (n:Nat) (ops:Array Oper) (base i:Nat) (dst:Option Tmp) (op:Op) (ty:TypeId) (pos:String) (after:Array Edge) (t:Env) (h:AH) (pend:List (Nat×AO)) (K:Env→AH→List (Nat×AO)→Prop) :
  syDS P S n ops base i { dst,op,type:=ty,pos,after,guard:=none } t h pend K=clsK (clsOf P op)
   (bnd (allocA P (opnd t) op) (fun x=>syPut n t dst (x.2 (base+i)) fun t'=>K t' h (pend++[(base+i,x.1)])) ⟨⟩)
   (syO P S (opnd t) op (absorb pend h) fun v h'=>syPut n t dst v fun t'=>K t' h' [])
   (syO P S (opnd t) op h fun v _=>syPut n t dst v fun t'=>K t' h pend) ⟨⟩ ⟨⟩ ⟨⟩:=by
 have h1:∀(c:Nat) (A A' B C:Prop) (u:Blk A) (u':Blk A') (v:Blk B) (w:Blk C),A=A'→clsK c A B C u v w=clsK c A' B C u' v w:=by
  intro c A A' B C u u' v w h
  subst h
  rfl
 refine h1 _ _ _ _ _ _ _ _ _ ?_
 show bnd (some true) _ _=_
 rw [bnd_some,ifB_true]
theorem syC_skip (r:Option Nat) (fn n:Nat) (s:St) (Q:Ex→St→Prop):syC P S r fn n .skip s Q=Q .normal s:=propext Iff.rfl
theorem syC_ret (r:Option Nat) (fn n:Nat) (s:St) (Q:Ex→St→Prop):syC P S r fn n .ret s Q=Q .ret s:=propext Iff.rfl
theorem syC_exit (r:Option Nat) (fn n id:Nat) (s:St) (Q:Ex→St→Prop):syC P S r fn n (.exit id) s Q=Q (.exit id) s:=propext Iff.rfl
theorem syC_region (r:Option Nat) (fn n id:Nat) (l:List Oper) (t:Env) (h:AH) (d:List Nat) (Q:Ex→St→Prop):syC P S r fn n (.region id l.toArray false) { t,h,d } Q=syOps P S n l.toArray l t h fun t h=>Q .normal { t,h,d }:=propext Iff.rfl
theorem syC_draw (r:Option Nat) (fn n id:Nat) (l:List Oper) (t:Env) (h:AH) (d:List Nat) (Q:Ex→St→Prop):syC P S r fn n (.region id l.toArray true) { t,h,d } Q=syDraw P S n l.toArray t h (fun t h=>Q .normal { t,h,d }) ⟨⟩ ⟨⟩ ⟨⟩ ⟨⟩:=propext Iff.rfl
theorem syC_seq (r:Option Nat) (fn n:Nat) (a b:Code) (s:St) (Q:Ex→St→Prop):syC P S r fn n (.seq a b) s Q=syC P S r fn n a s (thenK (fun s'=>syC P S r fn n b s' Q) Q):=propext Iff.rfl
theorem syC_cond (r:Option Nat) (fn n:Nat) (c:Operand) (a b:Code) (t:Env) (h:AH) (d:List Nat) (Q:Ex→St→Prop):syC P S r fn n (.cond c a b) { t,h,d } Q=ifB (opnd t c) (syC P S r fn n a { t,h,d } Q) (syC P S r fn n b { t,h,d } Q) ⟨⟩ ⟨⟩:=propext Iff.rfl
theorem syC_block (r:Option Nat) (fn n id:Nat) (c:Code) (s:St) (Q:Ex→St→Prop):syC P S r fn n (.block id c) s Q=syC P S r fn n c s (blkK id Q):=propext Iff.rfl
theorem syC_loop (r:Option Nat) (fn n:Nat) (c:Code) (s:St) (Q:Ex→St→Prop):syC P S r fn n (.loop c) s Q=loopK P S r fn n c s Q ⟨⟩ ⟨⟩ ⟨⟩:=propext Iff.rfl
theorem syC_range (r:Option Nat) (fn n:Nat) (g:Operand) (ps:Array Tmp) (a b:Code) (t:Env) (h:AH) (d:List Nat) (Q:Ex→St→Prop):syC P S r fn n (.rangeFunc g ps a b) { t,h,d } Q=bnd (loopHead r { t,h,d }) (fun x=>ltv (opnd t g) (fun gv=>rngK P S t fn n ps a b Q x gv) ⟨⟩) ⟨⟩:=propext Iff.rfl
theorem thenK_normal (A:St→Prop) (Q:Ex→St→Prop) (s:St):thenK A Q .normal s=A s:=propext Iff.rfl
theorem thenK_ret (A:St→Prop) (Q:Ex→St→Prop) (s:St):thenK A Q .ret s=Q .ret s:=propext Iff.rfl
theorem thenK_exit (A:St→Prop) (Q:Ex→St→Prop) (i:Nat) (s:St):thenK A Q (.exit i) s=Q (.exit i) s:=propext Iff.rfl
theorem blkK_normal (id:Nat) (Q:Ex→St→Prop) (s:St):blkK id Q .normal s=Q .normal s:=propext Iff.rfl
theorem blkK_ret (id:Nat) (Q:Ex→St→Prop) (s:St):blkK id Q .ret s=Q .ret s:=propext Iff.rfl
theorem rngK_func (t:Env) (fn n:Nat) (ps:Array Tmp) (a b:Code) (Q:Ex→St→Prop) (d:Nat) (h1:AH) (ds:List Nat) (f:FuncId) (first captured:List AV) :
  rngK P S t fn n ps a b Q (d,h1,ds) (.func (.func f) first captured)=chk (bodied P f=true) (callK P S f (first++[.yld h1.nx]++captured) (h1.new (.loop .ready none fn t n ps a b d)) (fun _ h3=>bnd (loopTail t ds h1.nx h3) (fun y=>Q y.1 y.2) ⟨⟩) ⟨⟩) ⟨⟩:=rfl
theorem syEnd_ret (rs:List ResultVar) (Q:AV→AH→Prop) (t:Env) (h:AH) (d:List Nat):syEnd P rs Q .ret { t,h,d }=bnd (takeMarks d h) (fun h'=>bnd (resultsA P h' t rs) (fun v=>Q v h') ⟨⟩) ⟨⟩:=propext Iff.rfl
theorem syEnd_normal (rs:List ResultVar) (Q:AV→AH→Prop) (t:Env) (h:AH) (d:List Nat):syEnd P rs Q .normal { t,h,d }=bnd (takeMarks d h) (fun h'=>bnd (resultsA P h' t rs) (fun v=>Q v h') ⟨⟩) ⟨⟩:=propext Iff.rfl
theorem takeMarks_nil (h:AH):takeMarks [] h=some h:=rfl
theorem resultsA_one (h:AH) (t:Env) (r:ResultVar):resultsA P h t [r]=resultA P h t r:=by
 unfold resultsA
 cases hh:resultA P h t r with
 | none=>simp [hh]
 | some v=>simp [hh]
theorem resultsA_nil (h:AH) (t:Env):resultsA P h t []=some (.tup []):=rfl
theorem resultsA_two (h:AH) (t:Env) (r s:ResultVar):resultsA P h t [r,s]=(resultA P h t r).bind fun x=>(resultA P h t s).bind fun y=>some (.tup [x,y]):=by
 unfold resultsA
 cases hh:resultA P h t r with
 | none=>simp [hh]
 | some v=>cases hs:resultA P h t s with
  | none=>simp [hh,hs]
  | some u=>simp [hh,hs]
theorem resultsA_three (h:AH) (t:Env) (r s q:ResultVar):resultsA P h t [r,s,q]=(resultA P h t r).bind fun x=>(resultA P h t s).bind fun y=>(resultA P h t q).bind fun z=>some (.tup [x,y,z]):=by
 unfold resultsA
 cases hh:resultA P h t r with
 | none=>simp [hh]
 | some v=>cases hs:resultA P h t s with
  | none=>simp [hh,hs]
  | some u=>cases hq:resultA P h t q with
   | none=>simp [hh,hs,hq]
   | some z=>simp [hh,hs,hq]
theorem resultA_tmp (h:AH) (t:Env) (i:Nat):resultA P h t (.tmp i)=some ((t.get i).getD .junk):=rfl
theorem resultA_cell (h:AH) (t:Env) (a:Nat) (ty:TypeId):resultA P h t (.cell a ty)=evLoad P h ty ((t.get a).getD .junk):=rfl
theorem opnd_tmp (t:Env) (i:Nat):opnd t (.tmp i)=(t.get i).getD .junk:=rfl
theorem opnd_func (t:Env) (i:Nat):opnd t (.func i)=.func (.func i) [] []:=rfl
theorem opnd_const (t:Env) (v:Value):opnd t (.const v)=toAV v:=rfl
theorem toAV_int (k:IntKind) (n:Int):toAV (.int k n)=.int k n:=rfl
theorem toAV_bool (b:Bool):toAV (.bool b)=.bool b:=rfl
theorem toAV_str (s:ByteArray):toAV (.string s)=.str (bytesOf s):=rfl
theorem toAV_nilsl:toAV (.slice none 0 0)=.nilsl:=rfl
theorem toAV_nilptr:toAV (.pointer none)=.nilptr:=rfl
theorem toAV_nilmap:toAV (.map none)=.nilmap:=rfl
theorem toAV_nilfunc:toAV .nilFunc=.nilfunc:=rfl
theorem toAV_nilif:toAV .nilIface=.nilif:=rfl
theorem binA_add (h:AH) (t:TypeId) (k:IntKind) (a b:Int):binA P h .add t (.int k a) (.int k b)=some (.int k (k.wrap (a+b))):=by simp [binA,intA]
theorem binA_sub (h:AH) (t:TypeId) (k:IntKind) (a b:Int):binA P h .sub t (.int k a) (.int k b)=some (.int k (k.wrap (a-b))):=by simp [binA,intA]
theorem binA_quo (h:AH) (t:TypeId) (k:IntKind) (a b:Int):binA P h .quo t (.int k a) (.int k b)=if b=0 then none else some (.int k (k.wrap (a.tdiv b))):=by simp [binA,intA]
theorem binA_eql (h:AH) (t:TypeId) (k:IntKind) (a b:Int):binA P h .eql t (.int k a) (.int k b)=some (.bool (decide (a=b))):=by simp [binA,intA];rfl
theorem binA_neq (h:AH) (t:TypeId) (k:IntKind) (a b:Int):binA P h .neq t (.int k a) (.int k b)=some (.bool (decide (a≠b))):=by simp [binA,intA,bne];rfl
theorem binA_lss (h:AH) (t:TypeId) (k:IntKind) (a b:Int):binA P h .lss t (.int k a) (.int k b)=some (.bool (decide (a<b))):=by simp [binA,intA]
theorem binA_leq (h:AH) (t:TypeId) (k:IntKind) (a b:Int):binA P h .leq t (.int k a) (.int k b)=some (.bool (decide (a≤b))):=by simp [binA,intA]
theorem binA_gtr (h:AH) (t:TypeId) (k:IntKind) (a b:Int):binA P h .gtr t (.int k a) (.int k b)=some (.bool (decide (b<a))):=by simp [binA,intA]
theorem binA_geq (h:AH) (t:TypeId) (k:IntKind) (a b:Int):binA P h .geq t (.int k a) (.int k b)=some (.bool (decide (b≤a))):=by simp [binA,intA]
theorem unA_not (b:Bool):unA .not (.bool b)=some (.bool !b):=rfl
theorem unA_neg (k:IntKind) (n:Int):unA .neg (.int k n)=some (.int k (k.wrap (0-n))):=rfl
theorem bq_t (b:Bool):(b==true)=b:=by cases b <;> rfl
theorem bq_f (b:Bool):(b==false)=!b:=by cases b <;> rfl
theorem wrap64_id {n:Int} (h1:-9223372036854775808≤n) (h2:n≤9223372036854775807):IntKind.i64.wrap n=n:=by
 simp only [IntKind.wrap,IntKind.bits,IntKind.signed]
 simp
 try omega
theorem callK_of {f:FuncId} {args:List AV} {h:AH} {Q K:AV→AH→Prop} {u:Blk K} (hx:RnC P S f args h Q) (hq:∀v h',Q v h'→K v h'):callK P S f args h K u:=hx.mono hq
theorem yldK_of {f:Nat} {args:List AV} {h:AH} {Q K:AV→AH→Prop} {u:Blk K} (hx:RnR P S f args h Q) (hq:∀v h',Q v h'→K v h'):yldK P S f args h K u:=hx.mono hq
theorem loopK_of {r:Option Nat} {fn n:Nat} {c:Code} {s:St} {Q K:Ex→St→Prop} {u:Blk c} {v:Blk s} {w:Blk K} (hx:RnL P S r fn n c s Q) (hq:∀ex s',Q ex s'→K ex s'):loopK P S r fn n c s K u v w:=hx.mono hq
noncomputable def zeroC (P:Program) (t:TypeId):Option (List AV):=(tzero P t).bind fun z=>cellsA (toAV z)
theorem allocA_alloc (E:Operand→AV) (e:TypeId):allocA P E (.alloc e)=(zeroC P e).bind fun cs=>some (.cells cs true cs.isEmpty,fun id=>.ptr id 0):=by
 simp only [allocA,zeroC]
 cases tzero P e <;> rfl
theorem allocA_box (E:Operand→AV) (e:TypeId) (x:Operand):allocA P E (.box e x)=(cellsA (E x)).bind fun cs=>some (.cells cs true cs.isEmpty,fun id=>.ptr id 0):=rfl
theorem allocA_buildSlice (E:Operand→AV) (t:TypeId) (n:Nat) (ps:List (Nat×Operand)):allocA P E (.buildSlice t n ps.toArray)=bsA P t n (ps.map fun (i,x)=>(i,E x)):=rfl
theorem allocA_makeSlice (E:Operand→AV) (t:TypeId) (l c:Operand):allocA P E (.makeSlice t l c)=msA P t (E l) (E c):=rfl
theorem allocA_makeMap (E:Operand→AV) (t:TypeId):allocA P E (.makeMap t none)=some (.map [] [] 0,.map):=by simp [allocA]
theorem bsA_eq (t:TypeId) (len:Nat) (parts:List (Nat×AV)):bsA P t len parts=(match P.underlying t with
  | some (.slice e)=>(tsize P e).bind fun sz=>if len*sz>2^24 then none else (zeroC P e).bind fun zc=>if zc.length=sz then (fillA (fun i=>some (i*sz,sz)) (repCells zc len) parts).bind fun cells=>some (.cells cells true (len*sz==0),fun id=>.sl id 0 len sz (some len)) else none
  | _=>none):=by
 unfold bsA zeroC
 cases P.underlying t with
 | none=>rfl
 | some d =>
  cases d <;> try rfl
  rename_i e
  simp only [Option.bind_eq_bind]
  cases tsize P e with
  | none=>rfl
  | some sz =>
   simp only [Option.bind_some]
   split
   ·rfl
   ·cases tzero P e <;> rfl
theorem allocated_some (h:AH) (ob:AO) (mk:Nat→AV):allocated h (some (ob,mk))=some (.val (mk h.nx) (h.new ob)):=rfl
theorem RnC.enter' {f:FuncId} {args:List AV} {h:AH} {Q:AV→AH→Prop} (fn:Func) (c:Code) (n:Nat) (rs:List ResultVar) (hs:S f args h=none) (hb:bodied P f=true) (hf:P.funcs[f]? = some fn) (hc:fn.body=some c) (hn:nTmps fn args=n)
  (hr:fn.results.toList=rs) (hw:syC P S none f n c { t:=argsEnv args 0 .nil,h,d:=[] } (syEnd P rs Q)):RnC P S f args h Q:=by
 subst hn;subst hr
 exact RnC.enter fn c hs hb hf hc hw
end
end Go.Abs
end