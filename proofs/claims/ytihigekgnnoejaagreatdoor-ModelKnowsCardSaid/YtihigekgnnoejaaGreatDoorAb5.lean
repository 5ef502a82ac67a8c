/- The abstract layer, parts 32 to 48. Conditions: none. -/
import Derived.Test.YtihigekgnnoejaaGreatDoorAb4
import Derived.ChangeReads
import Derived.DataReads
import Derived.ChangeArms
import Derived.OpenShut
import Derived.Carry
import Derived.ChangeOld
import Derived.Lib.Join
import Derived.WideShapes
set_option linter.unusedVariables false
set_option linter.unusedSimpArgs false
section
namespace Go.Abs
open Go
inductive Ty (P:Program) (h:AH):TypeId→List AV→Prop
 | bool {t:TypeId} (b:Bool) (ht:P.underlying t=some .bool):Ty P h t [.bool b]
 | int {t:TypeId} {k:IntKind} (n:Int) (ht:P.underlying t=some (.int k)) (hw:k.min≤n∧n≤k.max):Ty P h t [.int k n]
 | str {t:TypeId} (s:ByteArray) (ht:P.underlying t=some .string) (hs:s.size≤maxLen):Ty P h t [.str (bytesOf s)]
 | nilsl {t e:TypeId} (ht:P.underlying t=some (.slice e)):Ty P h t [.nilsl]
 | sl {t e:TypeId} {id len:Nat} {cs:List AV} (ht:P.underlying t=some (.slice e)) (hg:h.get id=some (.cells cs false false)) (hl:len≤maxLen) (hc:cs.length=len*P.cellsOf e)
   (hcs:∀i,i<len→Ty P h e ((cs.drop (i*P.cellsOf e)).take (P.cellsOf e))):Ty P h t [.sl id 0 len (P.cellsOf e) none]
 | struct {t:TypeId} {fs:Array Field} {cs:List AV} (ht:P.underlying t=some (.struct fs)) (hc:cs.length=P.cellsOf t)
   (hf:∀f,f∈fs.toList→Ty P h f.type ((cs.drop f.offset).take (P.cellsOf f.type))):Ty P h t cs
 | array {t e:TypeId} {n:Nat} {cs:List AV} (ht:P.underlying t=some (.array n e)) (hc:cs.length=P.cellsOf t)
   (hf:∀i,i<n→Ty P h e ((cs.drop (i*P.cellsOf e)).take (P.cellsOf e))):Ty P h t cs
theorem Ty.mono {P:Program} {h h':AH} (hle:∀id o,h.get id=some o→h'.get id=some o) {t:TypeId} {l:List AV} (hx:Ty P h t l):Ty P h' t l:=by
 induction hx with
 | bool b ht=>exact .bool b ht
 | int n ht hw=>exact .int n ht hw
 | str s ht hs=>exact .str s ht hs
 | nilsl ht=>exact .nilsl ht
 | sl ht hg hl hc hcs ih=>exact .sl ht (hle _ _ hg) hl hc ih
 | struct ht hc hf ih=>exact .struct ht hc ih
 | array ht hc hf ih=>exact .array ht hc ih
def tileF (P:Program):List Field→Nat→Nat→Bool
 | [],o,n=>o==n
 | f::r,o,n=>f.offset==o&&tileF P r (o+P.cellsOf f.type) n
theorem tileF_le {P:Program}:∀(l:List Field) (o n:Nat),tileF P l o n=true→o≤n
 | [],o,n,h=>by simp only [tileF,beq_iff_eq] at h;omega
 | f::r,o,n,h=>by
  simp only [tileF,Bool.and_eq_true] at h
  have:=tileF_le r _ n h.2
  omega
def dataT (P:Program):Nat→TypeId→Bool
 | 0,_=>false
 | k+1,t=>match P.underlying t with
  | some .bool=>true
  | some (.int _)=>true
  | some .string=>true
  | some (.slice e)=>decide (0<P.cellsOf e)&&dataT P k e
  | some (.struct fs)=>tileF P fs.toList 0 (P.cellsOf t)&&fs.toList.all fun f=>dataT P k f.type
  | some (.array n e)=>decide (n*P.cellsOf e=P.cellsOf t)&&dataT P k e
  | _=>false
def AllKept (K:Kp) (w:World):Prop:=∀b o,w.heap[b]? = some o→K.at_ b=some o∧K.ro b=true
theorem rel_addRO {K:Kp} {ρ:Pm} {h:AH} {w:World} (hR:Rel K ρ h w) (p:Pl) (cs:List AV) (hro:K.ro p.b=true)
  (ho:OR (fun id=>if id=h.nx then some p else ρ id) p (.cells cs false false) w.heap[p.b]?) :
  Ext h.nx ρ (h.nx+1) (fun id=>if id=h.nx then some p else ρ id)∧Rel K (fun id=>if id=h.nx then some p else ρ id) (h.new (.cells cs false false)) w:=by
 have hle:ρ.le (fun id=>if id=h.nx then some p else ρ id):=fun id q hq=>by
  have:id≠h.nx:=fun e=>by rw [e,hR.fresh h.nx (Nat.le_refl _)] at hq;cases hq
  simp [this,hq]
 refine ⟨⟨hle,Nat.le_succ _,fun id hid=>by simp [Nat.ne_of_lt hid]⟩,⟨hR.os,hR.tape,hR.output,hR.size,hR.keep,fun id hid=>?_,fun id o hg=>?_,?_⟩⟩
 ·have h1:h.nx+1≤id:=hid
  have:id≠h.nx:=by omega
  simp only [this,if_false]
  exact hR.fresh id (by omega)
 ·rw [AH.get_new] at hg
  split at hg
  ·rename_i e
   cases hg
   exact ⟨p,by simp [e],ho,(fun hh=>by cases hh),fun _=>hro⟩
  ·rename_i e
   obtain ⟨q,h1,h2,h3⟩:=hR.obj id o hg
   exact ⟨q,by simp [e,h1],h2.mono hle,h3⟩
 ·intro i j oi oj pi pj hi hj hoi hoj h1 h2 hb
  rw [AH.get_new] at hi hj
  split at hi
  ·cases hi;cases hoi
  ·split at hj
   ·cases hj;cases hoj
   ·rename_i e1 e2
    simp only [e1,e2,if_false] at h1 h2
    exact hR.inj i j oi oj pi pj hi hj hoi hoj h1 h2 hb
structure Got (P:Program) (K:Kp) (w:World) (ρ:Pm) (h:AH) (t:TypeId) (cs:List Value) (ρ':Pm) (h':AH) (avs:List AV):Prop where
 ext:Ext h.nx ρ h'.nx ρ'
 rel:Rel K ρ' h' w
 le:∀id o,h.get id=some o→h'.get id=some o
 vr:VRs ρ' avs cs
 ty:Ty P h' t avs
theorem lit_int_wf {k:IntKind} {n:Int} (h:(Lit.int k n).wf=true):k.min≤n∧n≤k.max:=by
 simpa [Lit.wf] using h
section
variable {H : Type} {enc : TypeId × Value → H} {P : Program} {K : Kp} {w : World} {k : Nat}
theorem got_many (hA:AllKept K w) {e:TypeId} {sz:Nat} (step:∀cs x,cs.length=sz→DataW.trod enc P w 0 (fun _=>true) true k e cs=some x→∀ρ h,Rel K ρ h w→∃ρ' h' avs,Got P K w ρ h e cs ρ' h' avs) :
  ∀(rows:List (List Value)),(∀cs,cs∈rows→cs.length=sz∧∃x,DataW.trod enc P w 0 (fun _=>true) true k e cs=some x)→∀ρ h,Rel K ρ h w →
   ∃ρ' h' avs,Ext h.nx ρ h'.nx ρ'∧Rel K ρ' h' w∧(∀id o,h.get id=some o→h'.get id=some o)∧VRs ρ' avs rows.flatten∧avs.length=rows.length*sz∧∀i,i<rows.length→Ty P h' e ((avs.drop (i*sz)).take sz)
 | [],_,ρ,h,hR=>⟨ρ,h,[],Ext.refl _ _,hR,fun _ _ h=>h,by simpa using VRs.nil,by simp,fun i hi=>by simp at hi⟩
 | cs::rows,hall,ρ,h,hR=>by
  obtain ⟨hl,x,hx⟩:=hall cs (List.mem_cons_self ..)
  obtain ⟨ρ1,h1,a1,g1⟩:=step cs x hl hx ρ h hR
  obtain ⟨ρ2,h2,a2,e2,r2,l2,v2,n2,t2⟩:=got_many hA step rows (fun c hc=>hall c (List.mem_cons_of_mem _ hc)) ρ1 h1 g1.rel
  have hl1:a1.length=sz:=by rw [g1.vr.length,hl]
  refine ⟨ρ2,h2,a1++a2,g1.ext.trans e2,r2,fun id o hg=>l2 id o (g1.le id o hg),?_,?_,fun i hi=>?_⟩
  ·simp only [List.flatten_cons]
   exact (g1.vr.mono e2.le).append v2
  ·simp only [List.length_append,List.length_cons,hl1,n2,Nat.add_mul,Nat.one_mul];omega
  ·cases i with
   | zero =>
    simp only [Nat.zero_mul,List.drop_zero]
    rw [List.take_append_of_le_length (by omega),List.take_of_length_le (by omega)]
    exact g1.ty.mono l2
   | succ i =>
    have h3:=t2 i (by simpa using hi)
    rw [show (i+1)*sz=a1.length+i*sz by rw [hl1,Nat.add_mul,Nat.one_mul];omega,List.drop_append]
    rw [List.drop_of_length_le (by omega)]
    simpa using h3
theorem got_fields (hA:AllKept K w) {cs:List Value} (step:∀t cs x,dataT P k t=true→DataW.trod enc P w 0 (fun _=>true) true k t cs=some x→∀ρ h,Rel K ρ h w→∃ρ' h' avs,Got P K w ρ h t cs ρ' h' avs) :
  ∀(fs:List Field) (o n:Nat),tileF P fs o n=true→(∀f,f∈fs→dataT P k f.type=true∧∃x,DataW.trod enc P w 0 (fun _=>true) true k f.type ((cs.drop f.offset).take (P.cellsOf f.type))=some x) →
   n=cs.length→o≤n→∀ρ h,Rel K ρ h w →
   ∃ρ' h' avs,Ext h.nx ρ h'.nx ρ'∧Rel K ρ' h' w∧(∀id o,h.get id=some o→h'.get id=some o)∧VRs ρ' avs (cs.drop o)∧∀f,f∈fs→o≤f.offset∧Ty P h' f.type ((avs.drop (f.offset-o)).take (P.cellsOf f.type))
 | [],o,n,ht,_,hn,hon,ρ,h,hR=>by
  simp only [tileF,beq_iff_eq] at ht
  subst ht
  subst hn
  exact ⟨ρ,h,[],Ext.refl _ _,hR,fun _ _ h=>h,by rw [List.drop_of_length_le (Nat.le_refl _)];exact .nil,fun f hf=>by simp at hf⟩
 | f::fs,o,n,ht,hall,hn,hon,ρ,h,hR=>by
  simp only [tileF,Bool.and_eq_true,beq_iff_eq] at ht
  obtain ⟨ho,ht⟩:=ht
  obtain ⟨hd,x,hx⟩:=hall f (List.mem_cons_self ..)
  have hfit:=tileF_le fs _ _ ht
  obtain ⟨ρ1,h1,a1,g1⟩:=step _ _ _ hd hx ρ h hR
  have hl1:a1.length=P.cellsOf f.type:=by rw [g1.vr.length];simp;omega
  obtain ⟨ρ2,h2,a2,e2,r2,l2,v2,t2⟩:=got_fields hA step fs (o+P.cellsOf f.type) n ht (fun g hg=>hall g (List.mem_cons_of_mem _ hg)) hn hfit ρ1 h1 g1.rel
  refine ⟨ρ2,h2,a1++a2,g1.ext.trans e2,r2,fun id o hg=>l2 id o (g1.le id o hg),?_,fun g hg=>?_⟩
  ·have:cs.drop o=(cs.drop f.offset).take (P.cellsOf f.type)++cs.drop (o+P.cellsOf f.type):=by
    have hh:=(List.take_append_drop (P.cellsOf f.type) (cs.drop o)).symm
    rw [List.drop_drop] at hh
    rw [ho];exact hh
   rw [this]
   exact (g1.vr.mono e2.le).append v2
  ·rcases List.mem_cons.1 hg with rfl | hg
   ·refine ⟨by omega,?_⟩
    rw [ho,Nat.sub_self,List.drop_zero,List.take_append_of_le_length (by omega),List.take_of_length_le (by omega)]
    exact g1.ty.mono l2
   ·obtain ⟨q1,q2⟩:=t2 g hg
    refine ⟨by omega,?_⟩
    rw [show g.offset-o=a1.length+(g.offset-(o+P.cellsOf f.type)) by omega,List.drop_append,List.drop_of_length_le (by omega)]
    simpa using q2
theorem addr_addN (b o n:Nat):(⟨b,o,none⟩:Addr).add n=⟨b,o+n,none⟩:=by
 unfold Addr.add
 split
 ·rename_i h;subst h;rfl
 ·rfl
theorem addr_add0 (a:Addr):a.add 0=a:=by simp [Addr.add]
theorem flat_rows {α:Type} (l:List α) (sz:Nat):∀n:Nat,((List.range n).map fun i=>(l.drop (i*sz)).take sz).flatten=l.take (n*sz)
 | 0=>by simp
 | n+1=>by
  rw [List.range_succ,List.map_append,List.flatten_append,flat_rows l sz n]
  simp only [List.map_cons,List.map_nil,List.flatten_cons,List.flatten_nil,List.append_nil]
  rw [Nat.add_mul,Nat.one_mul,List.take_add]
theorem got (hA:AllKept K w) (hd:∃(b:Nat) (c:Array Value) (e:TypeId) (fr:Nat×Nat),w.heap[b]? = some (Obj.cells c e fr)):∀(k:Nat) (t:TypeId) (cs:List Value) (x:DataW H×List MemPlace),dataT P k t=true →
  DataW.trod enc P w 0 (fun _=>true) true k t cs=some x→∀ρ h,Rel K ρ h w→∃ρ' h' avs,Got P K w ρ h t cs ρ' h' avs
 | 0,t,cs,x,hk,hx,ρ,h,hR=>by cases hk
 | k+1,t,cs,x,hk,hx,ρ,h,hR=>by
  have ih:=got hA hd k
  simp only [dataT] at hk
  cases ht:P.underlying t with
  | none=>rw [ht] at hk;cases hk
  | some d =>
   rw [ht] at hk
   cases d <;> try (cases hk;done)
   case bool =>
    obtain ⟨b,rfl,_⟩:=DataW.trod_bool ht hx
    exact ⟨ρ,h,_,Ext.refl _ _,hR,fun _ _ h=>h,.cons (.bool _) .nil,.bool _ ht⟩
   case int q =>
    obtain ⟨n,rfl,_,hw⟩:=DataW.trod_int ht hx
    exact ⟨ρ,h,_,Ext.refl _ _,hR,fun _ _ h=>h,.cons (.int _ _) .nil,.int _ ht (lit_int_wf hw)⟩
   case string =>
    obtain ⟨s,rfl,_,hs⟩:=DataW.trod_string ht hx
    exact ⟨ρ,h,_,Ext.refl _ _,hR,fun _ _ h=>h,.cons (.str _) .nil,.str _ ht hs⟩
   case slice e =>
    simp only [Bool.and_eq_true,decide_eq_true_eq] at hk
    obtain ⟨hsz,hk⟩:=hk
    rcases DataW.trod_slice ht hx with ⟨rfl,_⟩ | ⟨a,len,cap,elems,rest,n,hn,rfl,_,_,hlc,hcm,hel,hels,hsp,_⟩
    ·exact ⟨ρ,h,_,Ext.refl _ _,hR,fun _ _ h=>h,.cons .nilsl .nil,.nilsl ht⟩
    ·obtain rfl:k=n:=by omega
     obtain ⟨hrl,hrest⟩:=hsp rfl
     by_cases hc0:cap=0
     ·subst hc0
      obtain rfl:len=0:=by omega
      obtain ⟨b0,c0,e0,fr0,h0⟩:=hd
      obtain ⟨hE,hR'⟩:=rel_addRO hR ⟨b0,0,0⟩ [] (hA b0 _ h0).2 ⟨c0,e0,fr0,h0,Nat.zero_le _,Nat.le_refl _,fun i a hi=>by simp at hi,(fun hh=>by cases hh),fun hh=>by cases hh⟩
      refine ⟨_,_,[.sl h.nx 0 0 (P.cellsOf e) none],hE,hR',fun id o hg=>?_,.cons ?_ .nil,.sl ht (cs:=[]) ?_ (Nat.zero_le _) (by simp) fun i hi=>absurd hi (Nat.not_lt_zero i)⟩
      ·rw [AH.get_new]
       split
       ·rename_i e'
        obtain ⟨p,hp,_⟩:=hR.obj id o hg
        rw [e',hR.fresh _ (Nat.le_refl _)] at hp;cases hp
       ·exact hg
      ·exact .sl (p:=⟨b0,0,0⟩) (by simp) (Nat.le_refl _) (.inl rfl) (.inl rfl) (fun n hn=>by cases hn)
      ·rw [AH.get_new,if_pos rfl]
     ·-- every element lies in one block
      have hrow:∀j,j<cap→∃cs' x',w.cells? 0 (a.add (j*P.cellsOf e)) (P.cellsOf e)=some cs'∧DataW.trod enc P w 0 (fun _=>true) true k e cs'=some x':=by
       intro j hj
       by_cases hjl:j<len
       ·have h1:=hels j hjl
        have h2:elems[j]? = some (elems[j]'(by omega)):=List.getElem?_eq_getElem (by omega)
        rw [h2,Option.bind_eq_some_iff] at h1
        obtain ⟨cs',h3,h4⟩:=h1
        exact ⟨cs',_,h3,h4⟩
       ·have h1:=hrest (j-len) (by omega)
        have h2:rest[j-len]? = some (rest[j-len]'(by omega)):=List.getElem?_eq_getElem (by omega)
        rw [h2,Option.bind_eq_some_iff,show len+(j-len)=j by omega] at h1
        obtain ⟨cs',h3,h4⟩:=h1
        exact ⟨cs',_,h3,h4⟩
      obtain ⟨c,et,fr,hblk,hspot⟩:∃c et fr,w.heap[a.block]? = some (Obj.cells c et fr)∧a.spot=none:=by
       obtain ⟨cs0,x0,h1,_⟩:=hrow 0 (by omega)
       obtain ⟨_,hl,hg⟩:=World.cells?_some h1
       have h2:=hg 0 hsz
       have h3:cs0[0]? = some (cs0[0]'(by omega)):=List.getElem?_eq_getElem (by omega)
       rw [h3,Nat.zero_mul,addr_add0,addr_add0] at h2
       unfold World.cell? at h2
       split at h2
       ·rename_i c et fr hh
        split at h2
        ·cases h2
        ·rename_i hs
         exact ⟨c,et,fr,hh,by simpa using hs⟩
       ·cases h2
      have hat:∀j cs',w.cells? 0 (a.add (j*P.cellsOf e)) (P.cellsOf e)=some cs'→cs'=((c.toList.drop a.off).drop (j*P.cellsOf e)).take (P.cellsOf e)∧a.off+j*P.cellsOf e+P.cellsOf e≤c.size:=by
       intro j cs' h1
       obtain ⟨_,hl,hg⟩:=World.cells?_some h1
       have hcell:∀i,i<P.cellsOf e→c[a.off+j*P.cellsOf e+i]? = cs'[i]?:=fun i hi=>by
        have h2:=hg i hi
        obtain ⟨ab,ao,asp⟩:=a
        simp only at hspot hblk
        subst hspot
        rw [addr_addN,addr_addN] at h2
        unfold World.cell? at h2
        simp only [hblk,Option.isSome_none,Bool.false_eq_true,if_false] at h2
        exact h2
       have hbound:a.off+j*P.cellsOf e+P.cellsOf e≤c.size:=by
        have h2:=hcell (P.cellsOf e-1) (by omega)
        have h3:cs'[P.cellsOf e-1]? = some (cs'[P.cellsOf e-1]'(by omega)):=List.getElem?_eq_getElem (by omega)
        rw [h3] at h2
        have:=(Array.getElem?_eq_some_iff.1 h2).1
        omega
       refine ⟨List.ext_getElem? fun i=>?_,hbound⟩
       by_cases hi:i<P.cellsOf e
       ·rw [List.getElem?_take_of_lt hi,List.getElem?_drop,List.getElem?_drop,←hcell i hi,Array.getElem?_toList]
        congr 1
        omega
       ·rw [List.getElem?_eq_none (by omega),List.getElem?_eq_none (by simp;omega)]
      let l:=c.toList.drop a.off
      let rows:=(List.range len).map fun i=>(l.drop (i*P.cellsOf e)).take (P.cellsOf e)
      have hrows:∀cs',cs'∈rows→cs'.length=P.cellsOf e∧∃x',DataW.trod enc P w 0 (fun _=>true) true k e cs'=some x':=by
       intro cs' hm
       obtain ⟨i,hi,rfl⟩:=List.mem_map.1 hm
       obtain ⟨cs',x',h1,h2⟩:=hrow i (by have:=List.mem_range.1 hi;omega)
       obtain ⟨h3,_⟩:=hat i cs' h1
       refine ⟨?_,x',by rw [←h3];exact h2⟩
       rw [←h3];exact (World.cells?_some h1).2.1
      obtain ⟨ρ1,h1,avs,e1,r1,l1,v1,n1,t1⟩:=got_many hA (sz:=P.cellsOf e) (fun cs' x' _ hx' ρ h hR=>ih e cs' x' hk hx' ρ h hR) rows hrows ρ h hR
      have hrl:rows.length=len:=by simp [rows]
      rw [hrl] at n1 t1
      have hflat:rows.flatten=l.take (len*P.cellsOf e):=flat_rows l _ len
      rw [hflat] at v1
      obtain ⟨hbound,hmul⟩:a.off+cap*P.cellsOf e≤c.size∧len*P.cellsOf e≤cap*P.cellsOf e:=by
       obtain ⟨cs',x',g1,_⟩:=hrow (cap-1) (by omega)
       have h2:=(hat _ _ g1).2
       have h3:cap*P.cellsOf e=(cap-1)*P.cellsOf e+P.cellsOf e:=by
        obtain ⟨m,rfl⟩:∃m,cap=m+1:=⟨cap-1,by omega⟩
        simp [Nat.add_mul]
       exact ⟨by omega,Nat.mul_le_mul_right _ hlc⟩
      let p:Pl:=⟨a.block,a.off,a.off+cap*P.cellsOf e⟩
      have hle1:ρ1.le (fun id=>if id=h1.nx then some p else ρ1 id):=fun id q hq=>by
       have:id≠h1.nx:=fun e'=>by rw [e',r1.fresh h1.nx (Nat.le_refl _)] at hq;cases hq
       simp [this,hq]
      obtain ⟨hE,hR'⟩:=rel_addRO r1 p avs (hA a.block _ hblk).2 ⟨c,et,fr,hblk,hbound,by show a.off+avs.length≤a.off+cap*P.cellsOf e;omega,fun i b hi=>by
       obtain ⟨v,hv,hvr⟩:=v1.get hi
       refine ⟨v,?_,hvr.mono hle1⟩
       have hil:i<len*P.cellsOf e:=by rw [←n1];exact (List.getElem?_eq_some_iff.1 hi).1
       rw [List.getElem?_take_of_lt hil,List.getElem?_drop,Array.getElem?_toList] at hv
       exact hv,(fun hh=>by cases hh),fun hh=>by cases hh⟩
      have hle2:∀id o,h1.get id=some o→(h1.new (.cells avs false false)).get id=some o:=fun id o hg=>by
       rw [AH.get_new]
       split
       ·rename_i e'
        obtain ⟨q,hq,_⟩:=r1.obj id o hg
        rw [e',r1.fresh _ (Nat.le_refl _)] at hq;cases hq
       ·exact hg
      refine ⟨_,_,[.sl h1.nx 0 len (P.cellsOf e) none],e1.trans hE,hR',fun id o hg=>hle2 id o (l1 id o hg),.cons ?_ .nil,.sl ht (cs:=avs) ?_ (by omega) n1 fun i hi=>(t1 i hi).mono hle2⟩
      ·have:=VR.sl (ρ:=fun id=>if id=h1.nx then some p else ρ1 id) (id:=h1.nx) (off:=0) (len:=len) (sz:=P.cellsOf e) (c:=none) (p:=p) (a:=a) (cap:=cap) (by simp) hlc
        (.inr (by cases a;simp only at hspot;subst hspot;rfl)) (.inr (by show a.off+0+cap*P.cellsOf e≤a.off+cap*P.cellsOf e;omega)) (fun n hn=>by cases hn)
       exact this
      ·rw [AH.get_new,if_pos rfl]
   case struct fs =>
    simp only [Bool.and_eq_true,List.all_eq_true] at hk
    obtain ⟨hk1,hk2⟩:=hk
    obtain ⟨xs,n,hn,_,hl,hxl,hall⟩:=DataW.trod_struct ht hx
    obtain rfl:k=n:=by omega
    obtain ⟨ρ1,h1,avs,e1,r1,l1,v1,t1⟩:=got_fields hA (cs:=cs) (fun t cs x hk hx=>ih t cs x hk hx) fs.toList 0 (P.cellsOf t) hk1 (fun f hf=>by
     refine ⟨hk2 f hf,?_⟩
     obtain ⟨i,hi,he⟩:=List.getElem_of_mem hf
     have h2:=hall i f (by rw [←he];simp at hi ⊢)
     have hi':i<xs.length:=by simp at hi;omega
     rw [List.getElem?_eq_getElem hi'] at h2
     exact ⟨_,h2⟩) hl.symm (Nat.zero_le _) ρ h hR
    rw [List.drop_zero] at v1
    exact ⟨ρ1,h1,avs,e1,r1,l1,v1,.struct ht (by rw [v1.length,hl]) fun f hf=>by simpa using (t1 f hf).2⟩
   case array n e =>
    simp only [Bool.and_eq_true,decide_eq_true_eq] at hk
    obtain ⟨hk1,hk2⟩:=hk
    obtain ⟨xs,m,hm,_,hl,hxl,hall⟩:=DataW.trod_array ht hx
    obtain rfl:k=m:=by omega
    let rows:=(List.range n).map fun i=>(cs.drop (i*P.cellsOf e)).take (P.cellsOf e)
    have hrows:∀cs',cs'∈rows→cs'.length=P.cellsOf e∧∃x',DataW.trod enc P w 0 (fun _=>true) true k e cs'=some x':=by
     intro cs' hmem
     obtain ⟨i,hi,rfl⟩:=List.mem_map.1 hmem
     have hi:=List.mem_range.1 hi
     have h2:=hall i hi
     rw [List.getElem?_eq_getElem (show i<xs.length by omega)] at h2
     refine ⟨?_,_,h2⟩
     rw [List.length_take,List.length_drop]
     have:(i+1)*P.cellsOf e≤n*P.cellsOf e:=Nat.mul_le_mul_right _ hi
     rw [Nat.add_mul,Nat.one_mul] at this
     omega
    obtain ⟨ρ1,h1,avs,e1,r1,l1,v1,n1,t1⟩:=got_many hA (sz:=P.cellsOf e) (fun cs' x' _ hx' ρ h hR=>ih e cs' x' hk2 hx' ρ h hR) rows hrows ρ h hR
    have hrl:rows.length=n:=by simp [rows]
    rw [hrl] at n1 t1
    rw [flat_rows cs _ n,List.take_of_length_le (by omega)] at v1
    exact ⟨ρ1,h1,avs,e1,r1,l1,v1,.array ht (by omega) t1⟩
end
section
variable {P : Program} {S : Sums}
theorem gl_of_rel {K:Kp} {ρ:Pm} {h:AH} {w:World} (hR:Rel K ρ h w):glOK fun b=>w.heap[b]?:=by
 obtain ⟨a,b,e⟩:=K.gl
 exact ⟨a,b,hR.keep _ _ e⟩
def keptAll (w:World) (hw:glOK fun b=>w.heap[b]?):Kp:={ gl:=hw,os:=w.os,tape:=w.tape,output:=w.output,size:=w.heap.size,at_:=fun b=>w.heap[b]?,ro:=fun b=>decide (b<w.heap.size),roAt:=fun b hb=>by simp at hb;simp [hb] }
theorem rel_empty (w:World) (hw:glOK fun b=>w.heap[b]?):Rel (keptAll w hw) (fun _=>none) { tr:=.nil,nx:=0 } w :=
 ⟨rfl,rfl,rfl,Nat.le_refl _,fun _ _ h=>h,fun _ _=>rfl,fun id o hg=>by simp [AH.get] at hg,fun i j oi oj pi pj hi=>by simp [AH.get] at hi⟩
theorem keptAll_allKept (w:World) (hw:glOK fun b=>w.heap[b]?):AllKept (keptAll w hw) w:=fun b o h=>⟨h,by simp [keptAll,(Array.getElem?_eq_some_iff.1 h).1]⟩
theorem CallRes.mono {f:FuncId} {cargs:Array Value} {w:World} {Q Q':Value→World→Prop} (h:CallRes P f cargs w Q) (hq:∀v w',Q v w'→Q' v w'):CallRes P f cargs w Q':=by
 obtain ⟨n,w1,h1,h2⟩:=h
 refine ⟨n,w1,h1,?_⟩
 cases n with
 | enter g a=>exact CallsIn.mono h2 fun e w2 ⟨cv,h3,h4⟩=>⟨cv,h3,hq _ _ h4⟩
 | value cv=>exact hq _ _ h2
 | _=>exact h2.elim
theorem sumClosed_ok (hS:SumsOK P S) {f:FuncId} {k:Nat} {v:AV} {h0:AH} (hc:(evN P S k).call f [] { tr:=.nil,nx:=0 }=some (v,h0)) (hv:∀ρ ρ' cv,VR ρ v cv→VR ρ' v cv)
  {K:Kp} {ρ:Pm} {h:AH} {w:World} {cargs:Array Value} (hR:Rel K ρ h w) (hargs:VRs ρ [] cargs.toList):CallRes P f cargs w (CallPost K h ρ v h):=by
 have hcn:cargs=#[]:=by
  cases hh:cargs.toList with
  | nil=>simpa using hh
  | cons a l=>rw [hh] at hargs;cases hargs
 subst hcn
 refine ((evN_sound hS k).call (keptAll w (gl_of_rel hR)) (fun _=>none) { tr:=.nil,nx:=0 } w f [] #[] v h0 (rel_empty w _) .nil hc).mono fun cv w' hp=>?_
 obtain ⟨ρ',_,hvr,hR'⟩:=hp
 refine ⟨ρ,Ext.refl _ _,hv _ _ _ hvr,⟨hR'.os.trans hR.os,hR'.tape.trans hR.tape,hR'.output.trans hR.output,Nat.le_trans hR.size hR'.size,fun b o hb=>hR'.keep b o (hR.keep b o hb),hR.fresh,fun id o hg=>?_,hR.inj⟩⟩
 obtain ⟨p,h1,h2,h3⟩:=hR.obj id o hg
 refine ⟨p,h1,?_,h3⟩
 cases hb:w.heap[p.b]? with
 | some x=>rw [hR'.keep p.b x hb,←hb];exact h2
 | none =>
  rw [hb] at h2
  exact (or_none h2).elim
theorem walk_of_run (hS:SumsOK P S) {f:FuncId} (hb:bodied P f=true) {w:World} {ρ:Pm} {h:AH} {avs:List AV} {cargs:Array Value} {hw:glOK fun b=>w.heap[b]?} (hR:Rel (keptAll w hw) ρ h w) (hv:VRs ρ avs cargs.toList)
  (hrun:RnC P S f avs h fun v _=>v=.bool true):Calls P f cargs w fun e w'=>e=.returned (.bool true)∧RowKit.Below w.heap.size w w':=by
 obtain ⟨k,v,h',hc,rfl⟩:=hrun
 obtain ⟨nx,w1,hrn,hm⟩:=(evN_sound hS k).call (keptAll w hw) ρ h w f avs cargs _ h' hR hv hc
 rw [callFunc_bodied hb] at hrn
 cases hrn
 refine (callsIn_wide.1 hm).mono fun e w' hp=>?_
 obtain ⟨cv,rfl,ρ',_,hvr,hR'⟩:=hp
 cases hvr
 refine ⟨rfl,⟨hR'.os,hR'.tape,hR'.output,hR'.size,fun b hb=>?_⟩⟩
 have:w.heap[b]? = some w.heap[b]:=by simp
 rw [this]
 exact hR'.keep b _ this
theorem RnC.sum {f:FuncId} {args:List AV} {h:AH} {Q:AV→AH→Prop} {v:AV} {h':AH} (hs:S f args h=some (v,h')) (hq:Q v h'):RnC P S f args h Q :=
 ⟨1,v,h',by show evFn P S (evN P S 0) f args h=_;unfold evFn;rw [hs],hq⟩
end
/-! ### What stays -/
structure Fr (h h':AH):Prop where
 nx:h.nx≤h'.nx
 get:∀j,j<h.nx→h'.get j=h.get j
theorem Fr.refl (h:AH):Fr h h:=⟨Nat.le_refl _,fun _ _=>rfl⟩
theorem Fr.trans {a b c:AH} (h:Fr a b) (k:Fr b c):Fr a c:=⟨Nat.le_trans h.nx k.nx,fun j hj=>(k.get j (Nat.lt_of_lt_of_le hj h.nx)).trans (h.get j hj)⟩
theorem Fr.new (h:AH) (o:AO):Fr h (h.new o):=⟨Nat.le_succ _,fun j hj=>by rw [AH.get_new,if_neg (Nat.ne_of_lt hj)]⟩
theorem Fr.put {h h':AH} (k:Fr h h') {i:Nat} (o:AO) (hi:h.nx≤i):Fr h (h'.put i o):=⟨k.nx,fun j hj=>by rw [AH.get_put,if_neg (by omega)];exact k.get j hj⟩
theorem Fr.news {h h':AH} (k:Fr h h') (o:AO):Fr h (h'.new o):=k.trans (Fr.new h' o)
theorem Fr.more {h h':AH} (k:Fr h h') (n:Nat) (hn:h'.nx≤n):Fr h { tr:=h'.tr,nx:=n }:=⟨Nat.le_trans k.nx hn,fun j hj=>k.get j hj⟩
theorem AH.get_put_eq {h:AH} {i j:Nat} {o:AO} (e:j=i):(h.put i o).get j=some o:=by rw [AH.get_put,if_pos e]
theorem AH.get_put_ne {h:AH} {i j:Nat} {o:AO} (e:j≠i):(h.put i o).get j=h.get j:=by rw [AH.get_put,if_neg e]
theorem AH.get_new_eq {h:AH} {j:Nat} {o:AO} (e:j=h.nx):(h.new o).get j=some o:=by rw [AH.get_new,if_pos e]
theorem AH.get_new_ne {h:AH} {j:Nat} {o:AO} (e:j≠h.nx):(h.new o).get j=h.get j:=by rw [AH.get_new,if_neg e]
theorem AH.get_more (h:AH) (n j:Nat):({ tr:=h.tr,nx:=n }:AH).get j=h.get j:=rfl
theorem absorb_nil (h:AH):absorb [] h=h:=rfl
theorem absorb_cons (i:Nat) (o:AO) (l:List (Nat×AO)) (h:AH):absorb ((i,o)::l) h=absorb l (h.put i o):=rfl
section
variable {P : Program} {S : Sums}
theorem min2A_int (k k':IntKind) (x y:Int):min2A (.int k x) (.int k' y)=some (.int k (min x y)):=by
 have h:(if y<x then y else x)=min x y:=by rw [Int.min_def];split <;> split <;> omega
 simp only [min2A,h]
theorem max2A_int (k k':IntKind) (x y:Int):max2A (.int k x) (.int k' y)=some (.int k (max x y)):=by
 have h:(if y>x then y else x)=max x y:=by rw [Int.max_def];split <;> split <;> omega
 simp only [max2A,h]
theorem syDraw.go {n:Nat} {l:List Oper} {t:Env} {h:AH} {K:Env→AH→Prop} (prs:List (Nat×Nat)) (hf:P.follows .mixedOrders=true) (hs:statGo P l.toArray l 0 [] [] []=some prs)
  (hw:syGo P S n l.toArray h.nx l 0 t { tr:=h.tr,nx:=h.nx+l.length } [] [] fun ss t' h'=>sameAll P (evN P S 0) n l.toArray ss prs=true∧K t' h'):syDraw P S n l.toArray t h K ⟨⟩ ⟨⟩ ⟨⟩ ⟨⟩ :=
 ⟨hf,prs,hs,hw⟩
theorem syGo_nil (n:Nat) (ops:Array Oper) (base i:Nat) (t:Env) (h:AH) (pend:List (Nat×AO)) (acc:List DS) (K:List DS→Env→AH→Prop):syGo P S n ops base [] i t h pend acc K=K (acc++[({ t:=t,h:=h,pend:=pend }:DS)]) t (absorb pend h):=propext Iff.rfl
theorem syGo_cons (n:Nat) (ops:Array Oper) (base i:Nat) (o:Oper) (r:List Oper) (t:Env) (h:AH) (pend:List (Nat×AO)) (acc:List DS) (K:List DS→Env→AH→Prop) :
  syGo P S n ops base (o::r) i t h pend acc K=syDS P S n ops base i o t h pend fun t' h' pend'=>syGo P S n ops base r (i+1) t' h' pend' (acc++[({ t:=t,h:=h,pend:=pend }:DS)]) K:=propext Iff.rfl
theorem sameAll_one {R:Rec} {n i j:Nat} {ops:Array Oper} {ss:List DS} {r:List (Nat×Nat)} {o:Oper} {si si' sj sj':DS} (ho:ops[i]? = some o) (h1:ss[i]? = some si) (h2:ss[i+1]? = some si') (h3:ss[j]? = some sj) (h4:ss[j+1]? = some sj')
  (hx:(if Nat.beq (clsOf P o.op) 1 then sameAt P R n ops i si.t si'.t sj.h else sameAt P R n ops j sj.t sj'.t si'.h)=true) (hr:sameAll P R n ops ss r=true):sameAll P R n ops ss ((j,i)::r)=true:=by
 unfold sameAll
 simp only [ho,h1,h2,h3,h4,hx,hr,Bool.and_self]
theorem blkK_same (id:Nat) (Q:Ex→St→Prop) (s:St):blkK id Q (.exit id) s=Q .normal s:=by
 unfold blkK
 simp
theorem blkK_other {id j:Nat} (h:j≠id) (Q:Ex→St→Prop) (s:St):blkK id Q (.exit j) s=Q (.exit j) s:=by
 unfold blkK
 have:Nat.beq j id=false:=by rw [nat_beq_dec];simp [h]
 simp [this]
theorem below_of {i:Int} {n:Nat} (h1:0≤i) (h2:i<n):below i n=some i.toNat:=by
 cases i with
 | ofNat m =>
  have:m<n:=by simp only [Int.ofNat_eq_natCast] at h2;omega
  simp [below,this]
 | negSucc m=>omega
theorem upTo_of {i:Int} {n:Nat} (h1:0≤i) (h2:i≤n):upTo i n=some i.toNat:=by
 cases i with
 | ofNat m =>
  have:m≤n:=by simp only [Int.ofNat_eq_natCast] at h2;omega
  simp [upTo,this]
 | negSucc m=>omega
/-! ### Appending -/
noncomputable def appI (P:Program) (e:TypeId):Option (Nat×Nat):=(P.info? e).bind fun i=>i.zero.bind fun z=>(cellsA (toAV z)).bind fun zc=>if zc.length=i.size∧i.size≠0 then some (i.size,i.bytes) else none
def notInt:TypeDesc→Bool
 | .int _=>false
 | _=>true
def notStr:AV→Bool
 | .str _=>false
 | _=>true
theorem evAppend_eq {st xt e:TypeId} {d:TypeDesc} {size bytes:Nat} (hu:P.underlying st=some (.slice e)) (hd:P.underlying xt=some d) (hni:notInt d=true) (hi:appI P e=some (size,bytes))
  {h:AH} {s x:AV} {n len:Nat} {new old:List AV} (hn:lenA x=some n) (hnew:firstA h size n x=some new) (hl:lenA s=some len) (hold:firstA h size len s=some old) (hall:new.all oneA=true)
  (hb:(2*(len+n)+1000)*bytes≤2^40) (hb2:len+n≤2^40) (hs:notStr s=true) :
  evAppend P h #[st,xt] s x=if n=0 then some (.val s h) else
   match s with
   | .nilsl=>newCells h new false fun id=>.sl id 0 n size none
   | .sl id off _ _ (some c) =>
    if c<len+n then newCells h (old++new) false fun id=>.sl id 0 (len+n) size none
    else if ownBlock h id then (if fitsA h id off ((len+n)*size) then some (.val (.sl id off (len+n) size (some c)) (putIn h id (off+len*size) new)) else newCells (h.del id) (old++new) (textBlock h id||!(Nat.beq off 0)) fun id=>.sl id 0 (len+n) size none) else none
   | .sl id off _ _ none =>
    if ownBlock h id then newCells (h.del id) (old++new) (textBlock h id||!(Nat.beq off 0)) fun id=>.sl id 0 (len+n) size none else none
   | _=>none:=by
 unfold appI at hi
 simp only [Option.bind_eq_some_iff] at hi
 obtain ⟨i,h1,z,h2,zc,h3,h4⟩:=hi
 split at h4
 ·rename_i hz
  obtain ⟨hz1,hz2⟩:=hz
  cases h4
  have hap:appendedA P h i zc xt x=some (n,new):=by
   unfold appendedA
   simp only [hd,Option.bind_eq_bind,Option.bind_some]
   cases d <;> first | (cases hni;done) | simp only [hn,hnew,Option.bind_some]
  unfold evAppend
  simp only [List.getElem?_toArray,List.getElem?_cons_zero,List.getElem?_cons_succ,Option.bind_eq_bind,Option.bind_some,hu,h1,h2,h3]
  rw [if_neg (by simp [hz1,hz2])]
  simp only [hap,hl,hold,Option.bind_some]
  by_cases hn0:n=0
  ·simp only [hn0,if_true]
   cases s <;> first | rfl | (cases hs;done)
  ·simp only [hn0,if_false]
   rw [if_neg (by simp [hall]),if_neg (by simp only [Bool.or_eq_true,decide_eq_true_eq];intro hh;rcases hh with hh | hh <;> omega)]
   rfl
 ·cases h4
theorem firstA_sl {h:AH} {id off n sz k:Nat} {c:Option Nat} {cs:List AV} {o t:Bool} (hg:h.get id=some (.cells cs o t)) (hk:k≤n) (hl:off+k*sz≤cs.length):firstA h sz k (.sl id off n sz c)=some ((cs.drop off).take (k*sz)):=by
 simp [firstA,hk,cellsAt,hg,hl]
theorem cA_bool (b:Bool):cellsA (.bool b)=some [.bool b]:=rfl
theorem cA_int (k:IntKind) (n:Int):cellsA (.int k n)=some [.int k n]:=rfl
theorem cA_str (s:List Nat):cellsA (.str s)=some [.str s]:=rfl
theorem cA_nilptr  : cellsA .nilptr=some [.nilptr]:=rfl
theorem cA_ptr (i o:Nat):cellsA (.ptr i o)=some [.ptr i o]:=rfl
theorem cA_nilsl  : cellsA .nilsl=some [.nilsl]:=rfl
theorem cA_sl (i o l s:Nat) (c:Option Nat):cellsA (.sl i o l s c)=some [.sl i o l s c]:=rfl
theorem cA_nilmap  : cellsA .nilmap=some [.nilmap]:=rfl
theorem cA_map (i:Nat):cellsA (.map i)=some [.map i]:=rfl
theorem cA_func (fn:Fn) (a b:List AV):cellsA (.func fn a b)=some [.func fn a b]:=rfl
theorem cA_yld (i:Nat):cellsA (.yld i)=some [.yld i]:=rfl
theorem cA_nilfunc  : cellsA .nilfunc=some [.nilfunc]:=rfl
theorem cA_iface (t:TypeId) (v:AV):cellsA (.iface t v)=some [.iface t v]:=rfl
theorem cA_nilif  : cellsA .nilif=some [.nilif]:=rfl
theorem cA_agg (l:List AV):cellsA (.agg l)=some l:=rfl
/-! ### Arguments -/
theorem Ty.int_inv {h:AH} {t:TypeId} {k:IntKind} {l:List AV} (hu:P.underlying t=some (.int k)) (hx:Ty P h t l):∃n,l=[.int k n]∧k.min≤n∧n≤k.max:=by
 cases hx with
 | int n ht hw=>rw [hu] at ht;cases ht;exact ⟨n,rfl,hw⟩
 | bool b ht=>rw [hu] at ht;cases ht
 | str s ht hs=>rw [hu] at ht;cases ht
 | nilsl ht=>rw [hu] at ht;cases ht
 | sl ht=>rw [hu] at ht;cases ht
 | struct ht=>rw [hu] at ht;cases ht
 | array ht=>rw [hu] at ht;cases ht
theorem Ty.bool_inv {h:AH} {t:TypeId} {l:List AV} (hu:P.underlying t=some .bool) (hx:Ty P h t l):∃b,l=[.bool b]:=by
 cases hx with
 | int n ht hw=>rw [hu] at ht;cases ht
 | bool b ht=>exact ⟨b,rfl⟩
 | str s ht hs=>rw [hu] at ht;cases ht
 | nilsl ht=>rw [hu] at ht;cases ht
 | sl ht=>rw [hu] at ht;cases ht
 | struct ht=>rw [hu] at ht;cases ht
 | array ht=>rw [hu] at ht;cases ht
theorem Ty.str_inv {h:AH} {t:TypeId} {l:List AV} (hu:P.underlying t=some .string) (hx:Ty P h t l):∃s:ByteArray,l=[.str (bytesOf s)]∧s.size≤maxLen:=by
 cases hx with
 | int n ht hw=>rw [hu] at ht;cases ht
 | bool b ht=>rw [hu] at ht;cases ht
 | str s ht hs=>exact ⟨s,rfl,hs⟩
 | nilsl ht=>rw [hu] at ht;cases ht
 | sl ht=>rw [hu] at ht;cases ht
 | struct ht=>rw [hu] at ht;cases ht
 | array ht=>rw [hu] at ht;cases ht
theorem Ty.slice_inv {h:AH} {t e:TypeId} {l:List AV} (hu:P.underlying t=some (.slice e)) (hx:Ty P h t l):l=[.nilsl]∨∃id len cs,l=[.sl id 0 len (P.cellsOf e) none]∧h.get id=some (.cells cs false false)∧len≤maxLen∧cs.length=len*P.cellsOf e ∧
  ∀i,i<len→Ty P h e ((cs.drop (i*P.cellsOf e)).take (P.cellsOf e)):=by
 cases hx with
 | int n ht hw=>rw [hu] at ht;cases ht
 | bool b ht=>rw [hu] at ht;cases ht
 | str s ht hs=>rw [hu] at ht;cases ht
 | nilsl ht=>exact .inl rfl
 | sl ht hg hl hc hcs=>rw [hu] at ht;cases ht;exact .inr ⟨_,_,_,rfl,hg,hl,hc,hcs⟩
 | struct ht=>rw [hu] at ht;cases ht
 | array ht=>rw [hu] at ht;cases ht
theorem Ty.struct_inv {h:AH} {t:TypeId} {fs:Array Field} {l:List AV} (hu:P.underlying t=some (.struct fs)) (hx:Ty P h t l):l.length=P.cellsOf t∧∀f,f∈fs.toList→Ty P h f.type ((l.drop f.offset).take (P.cellsOf f.type)):=by
 cases hx with
 | int n ht hw=>rw [hu] at ht;cases ht
 | bool b ht=>rw [hu] at ht;cases ht
 | str s ht hs=>rw [hu] at ht;cases ht
 | nilsl ht=>rw [hu] at ht;cases ht
 | sl ht=>rw [hu] at ht;cases ht
 | struct ht hc hf=>rw [hu] at ht;cases ht;exact ⟨hc,hf⟩
 | array ht=>rw [hu] at ht;cases ht
end
section
variable {P : Program} {S : Sums}
theorem dataT_mono:∀(k:Nat) (t:TypeId),dataT P k t=true→dataT P (k+1) t=true
 | 0,t,h=>by cases h
 | k+1,t,h=>by
  have ih:=dataT_mono k
  simp only [dataT] at h
  unfold dataT
  cases hu:P.underlying t with
  | none=>rw [hu] at h;cases h
  | some d =>
   rw [hu] at h
   cases d <;> simp only at h ⊢ <;> try (first | exact h | cases h)
   case slice e =>
    rw [Bool.and_eq_true] at h ⊢
    exact ⟨h.1,ih _ h.2⟩
   case struct fs =>
    rw [Bool.and_eq_true] at h ⊢
    refine ⟨h.1,?_⟩
    have h2:=h.2
    rw [List.all_eq_true] at h2 ⊢
    exact fun f hf=>ih _ (h2 f hf)
   case array n e =>
    rw [Bool.and_eq_true] at h ⊢
    exact ⟨h.1,ih _ h.2⟩
theorem dataT_le {k j:Nat} (hkj:k≤j) {t:TypeId} (h:dataT P k t=true):dataT P j t=true:=by
 induction hkj with
 | refl=>exact h
 | step _ ih=>exact dataT_mono _ _ ih
theorem got_arg {H:Type} {enc:TypeId×Value→H} {W:World} {t:TypeId} {v:Value} {d:DataW H} {ps:List MemPlace} {k:Nat} (hd:∃(b:Nat) (c:Array Value) (e:TypeId) (fr:Nat×Nat),W.heap[b]? = some (Obj.cells c e fr)) (hk:dataT P k t=true)
  (h:DataW.Trod enc P W 0 (fun _=>true) true t v d ps) {ρ:Pm} {ah:AH} {hw:glOK fun b=>W.heap[b]?} (hR:Rel (keptAll W hw) ρ ah W):∃ρ' h' avs,Got P (keptAll W hw) W ρ ah t v.cells.toList ρ' h' avs:=by
 obtain ⟨fuel,hf⟩:=h
 exact got (keptAll_allKept W _) hd (max k fuel) t _ _ (dataT_le (Nat.le_max_left k fuel) hk) (DataW.trod_le (Nat.le_max_right k fuel) hf) ρ ah hR
theorem vr_agg {ρ:Pm} {avs:List AV} {v:Value} (hv:VRs ρ avs v.cells.toList) (hn:avs.length≠1):VR ρ (.agg avs) v:=by
 have hl:=hv.length
 cases v <;> first
  | (exact .agg hv;done)
  | (simp [Value.cells] at hl;exact absurd hl hn)
theorem trod_below {H:Type} {enc:TypeId×Value→H} {t:TypeId} (hl:laidOutB P=true) (hr:P.readableRec t=true) (hrow:t<P.types.size) {W W':World} {v:Value} {d:DataW H} {ps:List MemPlace}
  (h:DataW.Trod enc P W 0 (fun _=>true) true t v d ps) (hb:RowKit.Below W.heap.size W W'):DataW.Trod enc P W' 0 (fun b=>decide (b<W.heap.size)) true t v d ps:=by
 obtain ⟨fuel,hf⟩:=h
 exact RowKit.Below.trod hl hr hrow ⟨fuel,hf⟩ hb (DataW.trod_lt fuel t _ _ hf)
theorem cells_of_laid {laid:List (String×DataW Unit)} {w:World} (n:String) (d:DataW Unit) (r:List (String×DataW Unit)) (h:laidMetH P laid w) (hh:laid.filter (fun x=>x.2.handleName?.isSome)=[]) (hl:laid=(n,d)::r) :
  ∃(b:Nat) (c:Array Value) (e:TypeId) (fr:Nat×Nat),w.heap[b]? = some (Obj.cells c e fr):=by
 unfold laidMetH at h
 rw [hh] at h
 obtain ⟨ps,h1,_⟩:=h
 rw [hl] at h1
 obtain ⟨g,t,cs,fuel,p,q,h2,h3,h4,h5,h6,h7⟩:=h1
 unfold World.var? at h4
 rw [h2] at h4
 simp only [Option.bind_some] at h4
 split at h4
 ·rename_i c e fr hc
  exact ⟨g,c,e,fr,hc⟩
 ·cases h4
theorem rel_lt {K:Kp} {ρ:Pm} {h:AH} {w:World} (hR:Rel K ρ h w):∀id o,h.get id=some o→id<h.nx:=fun id o hg=>by
 obtain ⟨p,hp,_⟩:=hR.obj id o hg
 refine Nat.lt_of_not_le fun hle=>?_
 rw [hR.fresh id hle] at hp
 cases hp
end
attribute [go_sem ↓] clsK_bin clsK_slice syC_skip syC_ret syC_exit syC_region syC_draw syC_seq syC_cond syC_block syC_loop syC_range thenK_normal thenK_ret thenK_exit blkK_normal blkK_ret blkK_same blkK_other syOps_nil syOps_cons sy1_none sy1_some syGo0_nil syGo0_cons syGo_nil syGo_cons syDS_none syO_move syO_assign syO_pick syO_load syO_store syO_build syO_binOp syO_unOp syO_slice syO_indexAddr syO_index syO_lookup syO_call syO_builtin syO_alloc syO_box syO_buildSlice syO_makeMap syO_makeSlice syO_nilCheck syO_convert syO_makeInterface syO_makeFunc syO_fieldAddr syO_field syO_mapUpdate syO_insert syO_typeAssert syO_extract syPut_none syPut_some syEnd_ret syEnd_normal
attribute [go_sem] plainFn clsOf wantedA evLoad evStore aggT oneA putCells fillA repCells evOper val? evCall minA maxA foldA evIndexAddr argsEnv bq_t bq_f gt_iff_lt clsK_0 clsK_1 clsK_2 clsK_3 bnd_some ltv_eq chk_true ifB_true ifB_false resK_val resK_skip resK_call resK_yield syV_func syV_yld rngK_func takeMarks_nil resultsA_nil resultsA_one resultsA_two resultsA_three resultA_tmp resultA_cell opnd_tmp opnd_func opnd_const toAV_int toAV_bool toAV_str toAV_nilsl toAV_nilptr toAV_nilmap toAV_nilfunc toAV_nilif Tr.get_set if_true if_false Option.getD_some Nat.zero_add Nat.add_zero List.map_cons List.map_nil List.append_nil List.nil_append List.cons_append cond_true cond_false binA_add binA_sub binA_quo binA_eql binA_neq binA_lss binA_leq binA_gtr binA_geq unA_not unA_neg wrap64_id Bool.not_true Bool.not_false beq_self_eq_true decide_true decide_false Bool.false_eq_true Bool.true_eq_false not_true_eq_false not_false_eq_true ne_eq decide_not cA_bool cA_int cA_str cA_nilptr cA_ptr cA_nilsl cA_sl cA_nilmap cA_map cA_func cA_yld cA_nilfunc cA_iface cA_nilif cA_agg allocA_alloc allocA_box allocA_buildSlice allocA_makeSlice allocA_makeMap bsA_eq allocated_some Int.cast_ofNat_Int Int.natCast_one Int.natCast_zero min2A_int max2A_int below_of upTo_of Int.toNat_natCast Int.toNat_zero Nat.zero_mul List.isEmpty_cons List.isEmpty_nil Option.bind_some Option.bind_none Option.map_some Option.map_none Option.bind_eq_bind List.getElem?_cons_zero List.getElem?_cons_succ List.length_cons List.length_nil AH.get_put_eq AH.get_put_ne AH.get_new_eq AH.get_new_ne AH.get_more AH.nx_put AH.nx_new absorb_nil absorb_cons List.take_zero List.take_succ_cons List.drop_zero List.drop_succ_cons List.take_nil List.drop_nil Option.some.injEq List.getElem?_toArray BEq.rfl Bool.and_true Bool.true_and Bool.and_false Bool.false_and Bool.or_true Bool.or_false List.all_cons List.all_nil
theorem nxn (h:AH) (o:AO):(h.new o).nx=h.nx+1:=rfl
theorem nxp (h:AH) (i:Nat) (o:AO):(h.put i o).nx=h.nx:=rfl
/-! Numbers are reduced, too. -/
attribute [go_sem] Int.reduceEq Int.reduceNe Int.reduceLT Int.reduceLE Int.reduceAdd Int.reduceSub Int.reduceMul Int.reduceNeg Int.reduceToNat Nat.reducePow reduceCtorEq Nat.reduceEqDiff Nat.reduceAdd Nat.reduceLT Nat.reduceLeDiff Nat.reduceMul Nat.reduceSub Nat.reduceBEq
open Go.RowKit Go.Proofs
section
variable {P : Program} {ρ : Pm} {w : World} {K : Kp} {h : AH}
/-! ### Texts compared -/
def cmpA:List Nat→List Nat→Int
 | [],[]=>0
 | [],_::_=>-1
 | _::_,[]=>1
 | a::l,b::m=>cond (Nat.blt a b) (-1) (cond (Nat.blt b a) 1 (cmpA l m))
theorem cmpA_eq:∀l m:List UInt8,cmpA (l.map UInt8.toNat) (m.map UInt8.toNat)=Lib.compareBytes l m
 | [],[]=>rfl
 | [],_::_=>rfl
 | _::_,[]=>rfl
 | a::l,b::m=>by
  simp only [List.map_cons,cmpA,Lib.compareBytes,nat_blt_dec,cmpA_eq l m,UInt8.lt_iff_toNat_lt]
  by_cases h1:a.toNat<b.toNat
  ·simp [h1]
  ·by_cases h2:b.toNat<a.toNat <;> simp [h1,h2]
def sumCmp (args:List AV) (h:AH):Option (AV×AH) :=
 match args with
 | [.str a,.str b]=>some (.int .i64 (cmpA a b),h)
 | _=>none
theorem sumCmp_ok {f:FuncId} (hE:ExtOK P f Extern.BytealgCompare.compare) {args:List AV} {cargs:Array Value} {v:AV} {h':AH} (hR:Rel K ρ h w) (hv:VRs ρ args cargs.toList) (hs:sumCmp args h=some (v,h')):CallRes P f cargs w (CallPost K h ρ v h'):=by
 unfold sumCmp at hs
 split at hs
 ·obtain ⟨cx,cy,rfl,h1,h2⟩:=args2 hv
  cases h1;cases h2
  simp only [Option.some.injEq,Prod.mk.injEq] at hs
  obtain ⟨rfl,rfl⟩:=hs
  refine callRes_ext hE (Lib.run_compareString _ _ w) ⟨ρ,Ext.refl _ _,?_,hR⟩
  rename_i a b
  rw [show bytesOf a=a.data.toList.map UInt8.toNat from rfl,show bytesOf b=b.data.toList.map UInt8.toNat from rfl,cmpA_eq]
  exact .int _ _
 ·simp at hs
end
/-! ### The digest's functions -/
section
variable {P : Program} {S : Sums}
theorem Fr.del {h h':AH} (k:Fr h h') {i:Nat} (hi:h.nx≤i):Fr h (h'.del i):=⟨k.nx,fun j hj=>by rw [AH.get_del,if_neg (by omega)];exact k.get j hj⟩
/-! ### Slices of texts -/
/-! ### Numbers -/
/-! ### Words -/
def four (a b c d:Nat):Nat:=((a*256+b)*256+c)*256+d
/-! ### Bytes that are an argument -/
end
section
variable {P : Program} {S : Sums}
def rndE (l:Nat) (Q:AV→AH→Prop) (ex:Ex) (s:St):Prop :=
 ∃st pend fn t n ps a b d,s.h.get l=some (.loop st pend fn t n ps a b d)∧match ex with
  | .normal=>Q (.bool true) (s.h.put l (.loop .ready none fn t n ps a b d))
  | .ret=>Q (.bool false) (s.h.put l (.loop .done (some .ret) fn t n ps a b d))
  | .exit id=>Q (.bool false) (s.h.put l (.loop .done (some (.exit id)) fn t n ps a b d))
def rndB (P:Program) (S:Sums) (l fn n:Nat) (body:Code) (Q:AV→AH→Prop) (ex:Ex) (s:St):Prop :=
 ex=.normal∧∃pend fn1 t1 n1 ps1 a1 b1 d1,s.h.get l=some (.loop .ready pend fn1 t1 n1 ps1 a1 b1 d1) ∧
  syC P S (some l) fn n body { t:=s.t,h:=s.h.put l (.loop .busy pend fn1 t1 n1 ps1 a1 b1 d1),d:=s.d } (rndE l Q)
theorem RnR.enter {l:Nat} {args:List AV} {h:AH} {Q:AV→AH→Prop} {st:LoopState} {pend:Option Code} {fn n d:Nat} {t t':Env} {ps:Array Tmp} {assign body:Code} (hg:h.get l=some (.loop st pend fn t n ps assign body d))
  (ht:setArgs ps.toList args n t=some t') (hw:syC P S (some l) fn n assign { t:=t',h,d:=[] } (rndB P S l fn n body Q)):RnR P S l args h Q:=by
 obtain ⟨k1,ex,s1,e1,rfl,pend1,fn1,t1,n1,ps1,a1,b1,d1,hg1,hw1⟩:=syC_sound hw
 obtain ⟨k2,ex2,s2,e2,st2,pend2,fn2,t2,n2,ps2,a2,b2,d2,hg2,hq⟩:=syC_sound hw1
 have h1:evCode P (evN P S (max k1 k2)) (some l) fn n assign { t:=t',h,d:=[] }=some (.normal,s1):=evCode_mono (evN_mono (Nat.le_max_left k1 k2)) e1
 have h2:evCode P (evN P S (max k1 k2)) (some l) fn n body { s1 with h:=s1.h.put l (.loop .busy pend1 fn1 t1 n1 ps1 a1 b1 d1) }=some (ex2,s2):=evCode_mono (evN_mono (Nat.le_max_right k1 k2)) e2
 refine ⟨max k1 k2+1,?_⟩
 show ∃v h',evRound P (evN P S (max k1 k2)) l args h=some (v,h')∧Q v h'
 unfold evRound
 rw [hg]
 simp only
 rw [ht]
 simp only
 rw [h1]
 simp only
 rw [hg1]
 simp only
 rw [h2]
 simp only
 rw [hg2]
 cases ex2 with
 | normal=>exact ⟨_,_,rfl,hq⟩
 | ret=>exact ⟨_,_,rfl,hq⟩
 | exit i=>exact ⟨_,_,rfl,hq⟩
end
section
variable {P : Program} {S : Sums}
theorem syPut_mono {n:Nat} {t:Env} {dst:Option Tmp} {v:AV} {A B:Env→Prop} (hab:∀t',A t'→B t') (hx:syPut n t dst v A):syPut n t dst v B:=by
 unfold syPut at hx ⊢
 split
 ·rename_i hd;exact hab _ hx
 ·exact ⟨hx.1,hab _ hx.2⟩
theorem bnd_mono {α:Type} {ov:Option α} {A B:α→Prop} {u:Blk A} {w:Blk B} (hab:∀v,A v→B v) (hx:bnd ov A u):bnd ov B w:=let ⟨a,h1,h2⟩:=hx;⟨a,h1,hab a h2⟩
theorem resK_mono {h:AH} {A B:AV→AH→Prop} (hab:∀v h',A v h'→B v h'):∀ {r:ORes},resK P S h A r→resK P S h B r:=by
 intro r h2
 cases r with
 | val v h'=>exact hab _ _ h2
 | skip h'=>exact hab _ _ h2
 | call f args=>exact RnC.mono h2 hab
 | yield id args=>exact RnR.mono h2 hab
theorem syO_mono {E:Operand→AV} {op:Op} {h:AH} {A B:AV→AH→Prop} (hab:∀v h',A v h'→B v h') (hx:syO P S E op h A):syO P S E op h B:=by
 unfold syO at hx ⊢
 split at hx
 ·exact hab _ _ hx
 ·exact hab _ _ hx
 ·obtain ⟨tt,h1,h2,h3⟩:=hx;exact ⟨tt,h1,fun e=>hab _ _ (h2 e),fun e=>hab _ _ (h3 e)⟩
 ·exact bnd_mono (fun _=>hab _ _) hx
 ·exact bnd_mono (fun _=>hab _ _) hx
 ·exact bnd_mono (fun _=>hab _ _) hx
 ·exact bnd_mono (fun _=>hab _ _) hx
 ·exact bnd_mono (fun _=>hab _ _) hx
 ·exact bnd_mono (fun _=>hab _ _) hx
 ·exact bnd_mono (fun _=>hab _ _) hx
 ·exact bnd_mono (fun _=>hab _ _) hx
 ·exact bnd_mono (fun _=>hab _ _) hx
 ·split at hx
  ·rename_i c _ f _
   change syV P S (E f) (c.args.toList.map E) h A at hx
   change syV P S (E f) (c.args.toList.map E) h B
   unfold syV at hx ⊢
   split at hx
   ·exact RnC.mono hx hab
   ·exact bnd_mono (fun _=>resK_mono hab) hx
   ·exact RnR.mono hx hab
   ·exact hx
  ·exact bnd_mono (fun _=>resK_mono hab) hx
 ·exact bnd_mono (fun _=>resK_mono hab) hx
theorem sy1_mono {n:Nat} {ops:Array Oper} {o:Oper} {t:Env} {h:AH} {A B:Env→AH→Prop} (hab:∀t' h',A t' h'→B t' h') (hx:sy1 P S n ops o t h A):sy1 P S n ops o t h B:=by
 unfold sy1 at hx ⊢
 split at hx
 ·exact syO_mono (fun v h'=>syPut_mono fun t'=>hab t' h') hx
 ·obtain ⟨b,h1,tt,h2,h3,h4⟩:=hx
  exact ⟨b,h1,tt,h2,fun e=>syO_mono (fun v h'=>syPut_mono fun t'=>hab t' h') (h3 e),fun e=>syPut_mono (fun t'=>hab t' h) (h4 e)⟩
def valOf:Option ORes→Option AV
 | some (.val v _)=>some v
 | _=>none
def ptrR (R:Nat→Prop):AV→Prop
 | .ptr id _=>R id
 | _=>False
def mapR (R:Nat→Prop):AV→Prop
 | .map id=>R id
 | .nilmap=>True
 | _=>False
theorem ptrR_ptr (R:Nat→Prop) (id off:Nat):ptrR R (.ptr id off)=R id:=rfl
theorem mapR_map (R:Nat→Prop) (id:Nat):mapR R (.map id)=R id:=rfl
theorem mapR_nil (R:Nat→Prop):mapR R .nilmap=True:=rfl
theorem valOf_val (v:AV) (h:AH):valOf (some (.val v h))=some v:=rfl
def syLow (P:Program) (R:Nat→Prop) (E:Operand→AV) (op:Op) (h:AH) (K:AV→Prop):Prop :=
 match op with
 | .load t a=>bnd (evLoad P h t (E a)) (fun v=>ptrR R (E a)∧sameAV 20 v v=true∧K v) ⟨⟩
 | .lookup t m k ok=>∃v,(∀g,(∀id,R id→g.get id=h.get id)→evLookup P g t (E m) (E k) ok=some v)∧sameAV 20 v v=true∧K v
 | .convert s d x=>bnd (valOf (evConvert P h s d (E x))) (fun v=>(∀g,(∀id,R id→g.get id=h.get id)→valOf (evConvert P g s d (E x))=some v)∧sameAV 20 v v=true∧K v) ⟨⟩
 | op => bnd (valOf (evOper P E { dst := none, op, type := 0, pos := "", after := #[], guard := none } h)) (fun v => (∀ g, valOf (evOper P E { dst := none, op, type := 0, pos := "", after := #[], guard := none } g) = some v) ∧ sameAV 20 v v = true ∧ K v) ⟨⟩
theorem valOf_some {o:Option ORes} {v:AV} (h:valOf o=some v):∃h',o=some (.val v h'):=by
 unfold valOf at h
 split at h
 ·cases h;exact ⟨_,rfl⟩
 ·cases h
def Low (P:Program) (R:Nat→Prop) (E:Operand→AV) (o:Oper) (h:AH) (v:AV):Prop:=∀g,(∀id,R id→g.get id=h.get id)→evOper P E o g=some (.val v g)
theorem evLoad_keep {R:Nat→Prop} {h g:AH} {t:TypeId} {x:AV} (hx:ptrR R x) (hg:∀id,R id→g.get id=h.get id):evLoad P g t x=evLoad P h t x:=by
 cases x <;> first | exact hx.elim | skip
 rename_i id off
 have h1:=hg id hx
 simp only [evLoad,h1]
theorem syLow_ok {R:Nat→Prop} {E:Operand→AV} {o:Oper} {h:AH} {K:AV→Prop} (hc:clsOf P o.op=1) (hx:syLow P R E o.op h K):∃v,Low P R E o h v∧sameAV 20 v v=true∧K v:=by
 obtain ⟨dst,op,ty,pos,after,guard⟩:=o
 simp only at hc hx
 unfold syLow at hx
 split at hx
 ·rename_i t a
  obtain ⟨v,h1,h2,h3,h4⟩:=hx
  refine ⟨v,fun g hg=>?_,h3,h4⟩
  simp only [evOper,evLoad_keep (P:=P) (t:=t) h2 hg,h1,val?]
 ·rename_i t m k ok
  obtain ⟨v,h1,h3,h4⟩:=hx
  refine ⟨v,fun g hg=>?_,h3,h4⟩
  simp only [evOper,h1 g hg,val?]
 ·rename_i s d x
  obtain ⟨v,h1,h2,h3,h4⟩:=hx
  refine ⟨v,fun g hg=>?_,h3,h4⟩
  obtain ⟨g',hg'⟩:=valOf_some (h2 g hg)
  have hg2:evOper P E { dst:=dst,op:=.convert s d x,type:=ty,pos:=pos,after:=after,guard:=guard } g=some (.val v g'):=by
   rw [←hg']
   rfl
  obtain ⟨u,hu⟩:=evOper_read (P:=P) (by simpa using Nat.le_of_eq hc) hg2
  cases hu
  exact hg2
 ·obtain ⟨v,h1,h2,h3,h4⟩:=hx
  refine ⟨v,fun g hg=>?_,h3,h4⟩
  obtain ⟨g',hg'⟩:=valOf_some (h2 g)
  obtain ⟨u,hu⟩:=evOper_read (P:=P) (by simpa using Nat.le_of_eq hc) hg'
  cases hu
  exact hg'
/-! ### The walk -/
def clsK4 (c:Nat) (A B C D:Prop) (_:Blk A) (_:Blk B) (_:Blk C) (_:Blk D):Prop :=
 match c with
 | 2=>A
 | 3=>B
 | 1=>C
 | _=>D
theorem clsK4_0 (A B C D:Prop) (u:Blk A) (v:Blk B) (w:Blk C) (x:Blk D):clsK4 0 A B C D u v w x=D:=rfl
theorem clsK4_1 (A B C D:Prop) (u:Blk A) (v:Blk B) (w:Blk C) (x:Blk D):clsK4 1 A B C D u v w x=C:=rfl
theorem clsK4_2 (A B C D:Prop) (u:Blk A) (v:Blk B) (w:Blk C) (x:Blk D):clsK4 2 A B C D u v w x=A:=rfl
theorem clsK4_3 (A B C D:Prop) (u:Blk A) (v:Blk B) (w:Blk C) (x:Blk D):clsK4 3 A B C D u v w x=B:=rfl
def syDSK (P:Program) (S:Sums) (R:Nat→Prop) (n:Nat) (ops:Array Oper) (base i:Nat) (o:Oper) (t:Env) (h:AH) (pend:List (Nat×AO)) (K:Env→AH→List (Nat×AO)→Prop):Prop :=
 clsK4 (clsOf P o.op)
  (bnd (wantedA ops t o) (fun b=>ifB (.bool b)
   (bnd (allocA P (opnd t) o.op) (fun x=>syPut n t o.dst (x.2 (base+i)) fun t'=>K t' h (pend++[(base+i,x.1)])) ⟨⟩)
   (syPut n t o.dst (.tup []) fun t'=>K t' h pend) ⟨⟩ ⟨⟩) ⟨⟩)
  (sy1 P S n ops o t (absorb pend h) fun t' h'=>(∀id,R id→h'.get id=h.get id)∧K t' h' [])
  (bnd (wantedA ops t o) (fun b=>ifB (.bool b) (syLow P R (opnd t) o.op h fun v=>syPut n t o.dst v fun t'=>K t' h pend) (syPut n t o.dst (.tup []) fun t'=>K t' h pend) ⟨⟩ ⟨⟩) ⟨⟩)
  (sy1 P S n ops o t h fun t' _=>K t' h pend) ⟨⟩ ⟨⟩ ⟨⟩ ⟨⟩
def syGoK (P:Program) (S:Sums) (R:Nat→Prop) (n:Nat) (ops:Array Oper) (base:Nat):List Oper→Nat→Env→AH→List (Nat×AO)→(Env→AH→Prop)→Prop
 | [],_,t,h,pend,K=>K t (absorb pend h)
 | o::r,i,t,h,pend,K=>syDSK P S R n ops base i o t h pend fun t' h' pend'=>syGoK P S R n ops base r (i+1) t' h' pend' K
structure StepOK (P:Program) (R:Nat→Prop) (n:Nat) (ops:Array Oper) (o:Oper) (t:Env) (h:AH) (t':Env) (h':AH):Prop where
 keep:∀id,R id→h'.get id=h.get id
 low:clsOf P o.op=1→∀(Rc:Rec) g,(∀id,R id→g.get id=h.get id)→∃t2,evOp1 P Rc n ops o (restr t (o.looksAt ops) .nil) g=some (t2,g)∧∀d,o.dst=some d→∃a b,t2.get d=some a∧t'.get d=some b∧sameAV 20 a b=true
theorem putA_some {n:Nat} {t t':Env} {dst:Option Tmp} {v:AV} (hp:putA n t dst v=some t'):∀d,dst=some d→t'.get d=some v:=by
 intro d hd
 subst hd
 simp only [putA] at hp
 split at hp
 ·cases hp;rw [Tr.get_set,if_pos rfl]
 ·cases hp
theorem low_step {R:Nat→Prop} {n:Nat} {ops:Array Oper} {o:Oper} {t t':Env} {h:AH} {v:AV} (hs:sameAV 20 v v=true) (hp:putA n t o.dst v=some t')
  (hev:∀(Rc:Rec) g,(∀id,R id→g.get id=h.get id)→evOp1 P Rc n ops o t g=some (t',g)):StepOK P R n ops o t h t' h:=by
 refine ⟨fun _ _=>rfl,fun _ Rc g hg=>?_⟩
 obtain ⟨t1,h1,h2⟩:=evOp1_draw (hev Rc g hg)
 refine ⟨t1,h1,fun d hd=>⟨v,v,?_,putA_some hp d hd,hs⟩⟩
 have h3:=congrArg (fun e=>Tr.get e d) h2
 have h4:t'.get d=some v:=putA_some hp d hd
 simp only [backA,hd,Tr.get_set,if_true] at h3
 rw [h3];exact h4
theorem syO_of_val {E:Operand→AV} {o:Oper} {h:AH} {v:AV} {K:AV→AH→Prop} (hc:clsOf P o.op=1) (he:evOper P E o h=some (.val v h)) (hk:K v h):syO P S E o.op h K:=by
 obtain ⟨dst,op,ty,pos,after,guard⟩:=o
 cases op <;> simp only [clsOf] at hc <;> (first | (exact absurd hc (by decide)) | skip)
 case load=>obtain ⟨u,h1,h2⟩:=val?_spec he;cases h2;exact ⟨_,h1,hk⟩
 case lookup=>obtain ⟨u,h1,h2⟩:=val?_spec he;cases h2;exact ⟨_,h1,hk⟩
 case binOp=>obtain ⟨u,h1,h2⟩:=val?_spec he;cases h2;exact ⟨_,h1,hk⟩
 case slice=>obtain ⟨u,h1,h2⟩:=val?_spec he;cases h2;exact ⟨_,h1,hk⟩
 case convert=>exact ⟨_,he,hk⟩
 case call c =>
  obtain ⟨callee,args,tys⟩:=c
  cases callee with
  | builtin b=>exact ⟨_,he,hk⟩
  | invoke r nm=>simp at hc
  | value f=>simp at hc
theorem sy1_of {n:Nat} {ops:Array Oper} {o:Oper} {t:Env} {h:AH} {b:Bool} {K:Env→AH→Prop} (hw:wantedA ops t o=some b) (ht:b=true→syO P S (opnd t) o.op h fun v h'=>syPut n t o.dst v fun t'=>K t' h') (hf:b=false→syPut n t o.dst (.tup []) fun t'=>K t' h):sy1 P S n ops o t h K:=by
 unfold sy1
 split
 ·rename_i hg
  have:b=true:=by
   unfold wantedA at hw
   rw [hg] at hw
   cases hw;rfl
  exact ht this
 ·exact ⟨b,hw,b,rfl,ht,hf⟩
theorem syDSK_step {R:Nat→Prop} {n:Nat} {ops:Array Oper} {base i:Nat} {o:Oper} {t:Env} {h:AH} {pend:List (Nat×AO)} {K:Env→AH→List (Nat×AO)→Prop} (hw:syDSK P S R n ops base i o t h pend K) :
  syDS P S n ops base i o t h pend fun t' h' pend'=>StepOK P R n ops o t h t' h'∧K t' h' pend':=by
 unfold syDSK clsK4 at hw
 unfold syDS clsK
 split at hw
 ·rename_i hc
  rw [hc]
  obtain ⟨b,h1,tt,h2,h3,h4⟩:=hw
  have hst:∀t',StepOK P R n ops o t h t' h:=fun t'=>⟨fun _ _=>rfl,fun hh=>by rw [hc] at hh;cases hh⟩
  exact ⟨b,h1,tt,h2,fun e=>bnd_mono (fun x=>syPut_mono fun t' hk=>⟨hst t',hk⟩) (h3 e),fun e=>syPut_mono (fun t' hk=>⟨hst t',hk⟩) (h4 e)⟩
 ·rename_i hc
  rw [hc]
  exact sy1_mono (fun t' h' hk=>⟨⟨hk.1,fun hh=>by rw [hc] at hh;cases hh⟩,hk.2⟩) hw
 ·rename_i hc
  rw [hc]
  obtain ⟨b,h1,h2⟩:=hw
  have hwant:∀(Rc:Rec) (g:AH) (v:AV) (t':Env),b=true→evOper P (opnd t) o g=some (.val v g)→putA n t o.dst v=some t'→evOp1 P Rc n ops o t g=some (t',g):=fun Rc g v t' hb he hp=>by
   subst hb
   rw [evOp1_eq,h1]
   simp only [he,stepR,hp,Option.map_some]
  have hskip:∀(Rc:Rec) (g:AH) (t':Env),b=false→putA n t o.dst (.tup [])=some t'→evOp1 P Rc n ops o t g=some (t',g):=fun Rc g t' hb hp=>by
   subst hb
   rw [evOp1_eq,h1]
   simp only [hp,Option.map_some]
  rcases ifB_bool h2 with ⟨hb,h3⟩ | ⟨hb,h3⟩
  ·obtain ⟨v,hlow,hs,hk⟩:=syLow_ok hc h3
   obtain ⟨t',hp,hk'⟩:=syPut_sound hk
   have hstep:StepOK P R n ops o t h t' h:=low_step hs hp fun Rc g hg=>hwant Rc g v t' hb (hlow g hg) hp
   subst hb
   have hput:syPut n t o.dst v fun t2=>StepOK P R n ops o t h t2 h∧K t2 h pend:=by
    have:∀t2,putA n t o.dst v=some t2→StepOK P R n ops o t h t2 h:=fun t2 h2=>by rw [hp] at h2;cases h2;exact hstep
    unfold syPut at hk ⊢
    unfold putA at this
    split
    ·rename_i hd;rw [hd] at hk this;exact ⟨this _ rfl,hk⟩
    ·rename_i d hd;rw [hd] at hk this;exact ⟨hk.1,this _ (if_pos hk.1),hk.2⟩
   have hev:=hlow h fun _ _=>rfl
   have hO:=syO_of_val (S:=S) (K:=fun u h'=>syPut n t o.dst u fun t2=>StepOK P R n ops o t h t2 h∧K t2 h pend) hc hev hput
   exact sy1_of h1 (fun _=>hO) (fun hf=>by cases hf)
  ·obtain ⟨t',hp,hk'⟩:=syPut_sound h3
   have hstep:StepOK P R n ops o t h t' h:=low_step (v:=.tup []) rfl hp fun Rc g hg=>hskip Rc g t' hb hp
   subst hb
   have hput:syPut n t o.dst (.tup []) fun t2=>StepOK P R n ops o t h t2 h∧K t2 h pend:=by
    have:∀t2,putA n t o.dst (.tup [])=some t2→StepOK P R n ops o t h t2 h:=fun t2 h2=>by rw [hp] at h2;cases h2;exact hstep
    unfold syPut at h3 ⊢
    unfold putA at this
    split
    ·rename_i hd;rw [hd] at h3 this;exact ⟨this _ rfl,h3⟩
    ·rename_i d hd;rw [hd] at h3 this;exact ⟨h3.1,this _ (if_pos h3.1),h3.2⟩
   exact sy1_of (K:=fun t2 _=>StepOK P R n ops o t h t2 h∧K t2 h pend) h1 (fun hf=>by cases hf) (fun _=>hput)
 ·rename_i n2 n3 n1
  have hst:∀t',StepOK P R n ops o t h t' h:=fun t'=>⟨fun _ _=>rfl,fun hh=>absurd hh n1⟩
  have hres:sy1 P S n ops o t h fun t' _=>StepOK P R n ops o t h t' h∧K t' h pend:=sy1_mono (fun t' h' hk=>⟨hst t',hk⟩) hw
  split
  ·rename_i hc;exact absurd hc n2
  ·rename_i hc;exact absurd hc n3
  ·exact hres
theorem syDS_mono {n:Nat} {ops:Array Oper} {base i:Nat} {o:Oper} {t:Env} {h:AH} {pend:List (Nat×AO)} {A B:Env→AH→List (Nat×AO)→Prop} (hab:∀t' h' p',A t' h' p'→B t' h' p') (hw:syDS P S n ops base i o t h pend A):syDS P S n ops base i o t h pend B:=by
 unfold syDS clsK at hw ⊢
 split at hw
 ·obtain ⟨b,h1,tt,h2,h3,h4⟩:=hw
  exact ⟨b,h1,tt,h2,fun e=>bnd_mono (fun x=>syPut_mono fun t' hk=>hab _ _ _ hk) (h3 e),fun e=>syPut_mono (fun t' hk=>hab _ _ _ hk) (h4 e)⟩
 ·exact sy1_mono (fun t' h' hk=>hab _ _ _ hk) hw
 ·exact sy1_mono (fun t' h' hk=>hab _ _ _ hk) hw
def SS (P:Program) (R:Nat→Prop) (n:Nat) (ops:Array Oper) (ss:List DS):Prop :=
 ∀j o s s',ops[j]? = some o→ss[j]? = some s→ss[j+1]? = some s'→StepOK P R n ops o s.t s.h s'.t s'.h
theorem syGoK_go {R:Nat→Prop} {n:Nat} {ops:Array Oper} {base:Nat}:∀ {l:List Oper} {i:Nat} {t:Env} {h:AH} {pend:List (Nat×AO)} {acc:List DS} {K:Env→AH→Prop},(∃pre,ops.toList=pre++l∧pre.length=i)→acc.length=i →
  SS P R n ops (acc++[({ t:=t,h:=h,pend:=pend }:DS)])→syGoK P S R n ops base l i t h pend K →
  syGo P S n ops base l i t h pend acc fun ss t' h'=>(SS P R n ops ss∧ss.length=ops.size+1)∧K t' h'
 | [],i,t,h,pend,acc,K,⟨pre,hp,hl⟩,ha,hs,hw=>by
  refine ⟨⟨hs,?_⟩,hw⟩
  have:ops.size=i:=by rw [←Array.length_toList,hp];simpa using hl
  simp [ha,this]
 | o::r,i,t,h,pend,acc,K,⟨pre,hp,hl⟩,ha,hs,hw=>by
  refine syDS_mono (fun t' h' pend' hk=>?_) (syDSK_step hw)
  refine syGoK_go (l:=r) ⟨pre++[o],by rw [hp];simp,by simp [hl]⟩ (by simp [ha]) ?_ hk.2
  intro j oj s s' hoj hsj hsj'
  by_cases hj:j+1<acc.length+1
  ·refine hs j oj s s' hoj ?_ ?_
   ·rw [List.getElem?_append_left (by simp;omega)] at hsj;exact hsj
   ·rw [List.getElem?_append_left (by simp;omega)] at hsj';exact hsj'
  ·have hjl:j+1<((acc++[({ t:=t,h:=h,pend:=pend }:DS)])++[({ t:=t',h:=h',pend:=pend' }:DS)]).length:=(List.getElem?_eq_some_iff.1 hsj').1
   simp at hjl
   have hje:j=acc.length:=by omega
   subst hje
   have h1:s={ t:=t,h:=h,pend:=pend }:=by
    rw [List.getElem?_append_left (by simp),List.getElem?_append_right (Nat.le_refl _)] at hsj
    simpa using hsj.symm
   have h2:s'={ t:=t',h:=h',pend:=pend' }:=by
    rw [List.getElem?_append_right (by simp)] at hsj'
    simpa using hsj'.symm
   have h3:oj=o:=by
    rw [←Array.getElem?_toList,hp,ha,←hl,List.getElem?_append_right (Nat.le_refl _)] at hoj
    simpa using hoj.symm
   subst h1;subst h2;subst h3
   exact hk.1
theorem SS.chain {R:Nat→Prop} {n:Nat} {ops:Array Oper} {ss:List DS} (hs:SS P R n ops ss) (hl:ss.length=ops.size+1):∀(b a:Nat),a≤b→b≤ops.size→∀sa sb,ss[a]? = some sa→ss[b]? = some sb→∀id,R id→sb.h.get id=sa.h.get id
 | 0,a,hab,_,sa,sb,h1,h2,id,hr=>by
  obtain rfl:a=0:=by omega
  rw [h1] at h2;cases h2;rfl
 | b+1,a,hab,hb,sa,sb,h1,h2,id,hr=>by
  by_cases he:a=b+1
  ·subst he;rw [h1] at h2;cases h2;rfl
  ·have h3:ss[b]? = some ss[b]:=List.getElem?_eq_getElem (by omega)
   have h4:ops[b]? = some ops[b]:=Array.getElem?_eq_getElem (by omega)
   rw [(hs b _ _ _ h4 h3 h2).keep id hr]
   exact hs.chain hl b a (by omega) (by omega) sa _ h1 h3 id hr
def GoodP (P:Program) (ops:Array Oper) (p:Nat×Nat):Prop:=p.1<p.2∧∃oj oi,ops[p.1]? = some oj∧ops[p.2]? = some oi∧((clsOf P oi.op=1∧clsOf P oj.op=3)∨(clsOf P oi.op=3∧clsOf P oj.op=1))
theorem pairsAt_good {o:Oper} {m i:Nat}:∀(l:List Oper) (j0:Nat) (p:Nat×Nat),p∈pairsAt P o m i j0 l→∃j q,p=(j0+j,i)∧l[j]? = some q∧((clsOf P o.op=1∧clsOf P q.op=3)∨(clsOf P o.op=3∧clsOf P q.op=1))
 | [],j0,p,hp=>by simp [pairsAt] at hp
 | q::l,j0,p,hp=>by
  have tail:p∈pairsAt P o m i (j0+1) l→∃j q',p=(j0+j,i)∧(q::l)[j]? = some q'∧((clsOf P o.op=1∧clsOf P q'.op=3)∨(clsOf P o.op=3∧clsOf P q'.op=1)):=fun h=>by
   obtain ⟨j,q',h1,h2,h3⟩:=pairsAt_good l (j0+1) p h
   exact ⟨j+1,q',by rw [h1];congr 1;omega,by simpa using h2,h3⟩
  simp only [pairsAt] at hp
  split at hp
  ·rename_i hc
   rcases List.mem_cons.1 hp with rfl | hp
   ·refine ⟨0,q,rfl,rfl,?_⟩
    simp only [Bool.and_eq_true,Bool.or_eq_true,nat_beq_dec,decide_eq_true_eq] at hc
    exact hc.2
   ·exact tail hp
  ·exact tail hp
theorem statGo_good {ops:Array Oper}:∀(l:List Oper) (i:Nat) (prev:List Oper) (ms:List Nat) (acc prs:List (Nat×Nat)),prev.length=i→ops.toList=prev++l→(∀p,p∈acc→GoodP P ops p)→statGo P ops l i prev ms acc=some prs→∀p,p∈prs→GoodP P ops p
 | [],i,prev,ms,acc,prs,_,_,ha,hs,p,hp=>by simp only [statGo,Option.some.injEq] at hs;subst hs;exact ha p hp
 | o::r,i,prev,ms,acc,prs,hl,ho,ha,hs,p,hp=>by
  simp only [statGo] at hs
  split at hs
  ·cases hs
  ·rename_i m _
   split at hs
   ·refine statGo_good r (i+1) (prev++[o]) _ _ prs (by simp [hl]) (by rw [ho];simp) (fun q hq=>?_) hs p hp
    rcases List.mem_append.1 hq with hq | hq
    ·exact ha q hq
    ·obtain ⟨j,oj,h1,h2,h3⟩:=pairsAt_good prev 0 q hq
     have hj:j<prev.length:=(List.getElem?_eq_some_iff.1 h2).1
     rw [Nat.zero_add] at h1
     subst h1
     refine ⟨by show j<i;omega,oj,o,?_,?_,h3⟩
     ·show ops[j]? = some oj
      rw [←Array.getElem?_toList,ho,List.getElem?_append_left hj];exact h2
     ·show ops[i]? = some o
      rw [←Array.getElem?_toList,ho,←hl,List.getElem?_append_right (Nat.le_refl _)];simp
   ·cases hs
theorem sameAt_low {R:Nat→Prop} {Rc:Rec} {n i:Nat} {ops:Array Oper} {o:Oper} {t t':Env} {h h' g:AH} (ho:ops[i]? = some o) (hst:StepOK P R n ops o t h t' h') (hc:clsOf P o.op=1) (hg:∀id,R id→g.get id=h.get id):sameAt P Rc n ops i t t' g=true:=by
 obtain ⟨t2,h1,h2⟩:=hst.low hc Rc g hg
 unfold sameAt
 rw [ho]
 simp only [h1]
 cases hd:o.dst with
 | none=>rfl
 | some d =>
  obtain ⟨a,b,h3,h4,h5⟩:=h2 d hd
  simp only [h3,h4]
  exact h5
theorem sameAll_good {R:Nat→Prop} {Rc:Rec} {n:Nat} {ops:Array Oper} {ss:List DS} (hs:SS P R n ops ss) (hl:ss.length=ops.size+1):∀(prs:List (Nat×Nat)),(∀p,p∈prs→GoodP P ops p)→sameAll P Rc n ops ss prs=true
 | [],_=>rfl
 | (j,i)::r,hg=>by
  obtain ⟨hji,oj,oi,hoj,hoi,hcl⟩:=hg (j,i) (List.mem_cons_self ..)
  simp only at hji hoj hoi
  have hi:i<ops.size:=(Array.getElem?_eq_some_iff.1 hoi).1
  have g1:ss[i]? = some ss[i]:=List.getElem?_eq_getElem (by omega)
  have g2:ss[i+1]? = some ss[i+1]:=List.getElem?_eq_getElem (by omega)
  have g3:ss[j]? = some ss[j]:=List.getElem?_eq_getElem (by omega)
  have g4:ss[j+1]? = some ss[j+1]:=List.getElem?_eq_getElem (by omega)
  refine sameAll_one hoi g1 g2 g3 g4 ?_ (sameAll_good hs hl r fun p hp=>hg p (List.mem_cons_of_mem _ hp))
  rcases hcl with ⟨c1,c2⟩ | ⟨c1,c2⟩
  ·rw [if_pos (by rw [c1];rfl)]
   exact sameAt_low hoi (hs i _ _ _ hoi g1 g2) c1 fun id hr=>(hs.chain hl i j (by omega) (by omega) _ _ g3 g1 id hr).symm
  ·rw [if_neg (by rw [c1];decide)]
   exact sameAt_low hoj (hs j _ _ _ hoj g3 g4) c2 fun id hr=>hs.chain hl (i+1) j (by omega) (by omega) _ _ g3 g2 id hr
theorem syGo_mono {n:Nat} {ops:Array Oper} {base:Nat} {A B:List DS→Env→AH→Prop} (hab:∀ss t h,A ss t h→B ss t h):∀ {l:List Oper} {i:Nat} {t:Env} {h:AH} {pend:List (Nat×AO)} {acc:List DS},syGo P S n ops base l i t h pend acc A→syGo P S n ops base l i t h pend acc B
 | [],_,_,_,_,_,hw=>hab _ _ _ hw
 | o::r,i,t,h,pend,acc,hw=>syDS_mono (fun _ _ _ hk=>syGo_mono hab hk) hw
theorem syDraw.keep {n:Nat} {l:List Oper} {t:Env} {h:AH} {K:Env→AH→Prop} (R:Nat→Prop) (hf:P.follows .mixedOrders=true) (hs:(statGo P l.toArray l 0 [] [] []).isSome=true)
  (hw:syGoK P S R n l.toArray h.nx l 0 t { tr:=h.tr,nx:=h.nx+l.length } [] K):syDraw P S n l.toArray t h K ⟨⟩ ⟨⟩ ⟨⟩ ⟨⟩:=by
 obtain ⟨prs,hp⟩:=Option.isSome_iff_exists.1 hs
 refine syDraw.go prs hf hp ?_
 have h1:=syGoK_go (P:=P) (S:=S) (R:=R) (ops:=l.toArray) (l:=l) (i:=0) (acc:=[]) ⟨[],by simp,rfl⟩ rfl (fun j o s s' _ _ h2=>by simp at h2) hw
 refine syGo_mono (fun ss t' h' hk=>⟨?_,hk.2⟩) h1
 exact sameAll_good hk.1.1 hk.1.2 prs (statGo_good l 0 [] [] [] prs rfl (by simp) (fun p hp=>by simp at hp) hp)
/-! ### Rules -/
theorem syGoK_nil (R:Nat→Prop) (n:Nat) (ops:Array Oper) (base i:Nat) (t:Env) (h:AH) (pend:List (Nat×AO)) (K:Env→AH→Prop):syGoK P S R n ops base [] i t h pend K=K t (absorb pend h):=propext Iff.rfl
theorem syGoK_cons (R:Nat→Prop) (n:Nat) (ops:Array Oper) (base i:Nat) (o:Oper) (r:List Oper) (t:Env) (h:AH) (pend:List (Nat×AO)) (K:Env→AH→Prop) :
  syGoK P S R n ops base (o::r) i t h pend K=syDSK P S R n ops base i o t h pend fun t' h' pend'=>syGoK P S R n ops base r (i+1) t' h' pend' K:=rfl
theorem syDSK_none (R:Nat→Prop) (n:Nat) (ops:Array Oper) (base i:Nat) (dst:Option Tmp) (op:Op) (ty:TypeId) (pos:String) (after:Array Edge) (t:Env) (h:AH) (pend:List (Nat×AO)) (K:Env→AH→List (Nat×AO)→Prop) :
  syDSK P S R n ops base i { dst,op,type:=ty,pos,after,guard:=none } t h pend K=clsK4 (clsOf P op)
   (bnd (allocA P (opnd t) op) (fun x=>syPut n t dst (x.2 (base+i)) fun t'=>K t' h (pend++[(base+i,x.1)])) ⟨⟩)
   (syO P S (opnd t) op (absorb pend h) fun v h'=>syPut n t dst v fun t'=>(∀id,R id→h'.get id=h.get id)∧K t' h' [])
   (syLow P R (opnd t) op h fun v=>syPut n t dst v fun t'=>K t' h pend)
   (syO P S (opnd t) op h fun v _=>syPut n t dst v fun t'=>K t' h pend) ⟨⟩ ⟨⟩ ⟨⟩ ⟨⟩:=by
 have h1:∀(c:Nat) (A A' B C C' D:Prop),A=A'→C=C'→clsK4 c A B C D ⟨⟩ ⟨⟩ ⟨⟩ ⟨⟩=clsK4 c A' B C' D ⟨⟩ ⟨⟩ ⟨⟩ ⟨⟩:=by
  intro c A A' B C C' D e1 e2
  subst e1;subst e2
  rfl
 refine h1 _ _ _ _ _ _ _ ?_ ?_
 ·show bnd (some true) _ _=_
  rw [bnd_some,ifB_true]
 ·show bnd (some true) _ _=_
  rw [bnd_some,ifB_true]
theorem syDSK_some (R:Nat→Prop) (n:Nat) (ops:Array Oper) (base i:Nat) (dst:Option Tmp) (op:Op) (ty:TypeId) (pos:String) (after:Array Edge) (g:Nat×Bool) (t:Env) (h:AH) (pend:List (Nat×AO)) (K:Env→AH→List (Nat×AO)→Prop) :
  syDSK P S R n ops base i { dst,op,type:=ty,pos,after,guard:=some g } t h pend K=bnd (wantedA ops t { dst,op:=.move (.tmp 0),type:=ty,pos,after,guard:=some g }) (fun b=>ifB (.bool b)
   (clsK4 (clsOf P op)
    (bnd (allocA P (opnd t) op) (fun x=>syPut n t dst (x.2 (base+i)) fun t'=>K t' h (pend++[(base+i,x.1)])) ⟨⟩)
    (syO P S (opnd t) op (absorb pend h) fun v h'=>syPut n t dst v fun t'=>(∀id,R id→h'.get id=h.get id)∧K t' h' [])
    (syLow P R (opnd t) op h fun v=>syPut n t dst v fun t'=>K t' h pend)
    (syO P S (opnd t) op h fun v _=>syPut n t dst v fun t'=>K t' h pend) ⟨⟩ ⟨⟩ ⟨⟩ ⟨⟩)
   (clsK4 (clsOf P op)
    (syPut n t dst (.tup []) fun t'=>K t' h pend)
    (syPut n t dst (.tup []) fun t'=>(∀id,R id→(absorb pend h).get id=h.get id)∧K t' (absorb pend h) [])
    (syPut n t dst (.tup []) fun t'=>K t' h pend)
    (syPut n t dst (.tup []) fun t'=>K t' h pend) ⟨⟩ ⟨⟩ ⟨⟩ ⟨⟩) ⟨⟩ ⟨⟩) ⟨⟩:=by
 unfold syDSK
 show clsK4 (clsOf P op) _ _ _ _ _ _ _ _=_
 generalize clsOf P op=c
 rcases c with _ | _ | _ | _ | c <;> rfl
theorem syLow_load (R:Nat→Prop) (E:Operand→AV) (t:TypeId) (a:Operand) (h:AH) (K:AV→Prop):syLow P R E (.load t a) h K=bnd (evLoad P h t (E a)) (fun v=>ptrR R (E a)∧sameAV 20 v v=true∧K v) ⟨⟩:=rfl
theorem syLow_lookup (R:Nat→Prop) (E:Operand→AV) (t:TypeId) (m k:Operand) (ok:Bool) (h:AH) (K:AV→Prop):syLow P R E (.lookup t m k ok) h K=∃v,(∀g,(∀id,R id→g.get id=h.get id)→evLookup P g t (E m) (E k) ok=some v)∧sameAV 20 v v=true∧K v:=rfl
theorem syLow_call (R:Nat→Prop) (E:Operand→AV) (c:Call) (h:AH) (K:AV→Prop):syLow P R E (.call c) h K=bnd (valOf (evCall P h E c)) (fun v=>(∀g,valOf (evCall P g E c)=some v)∧sameAV 20 v v=true∧K v) ⟨⟩:=rfl
theorem syLow_bin (R:Nat→Prop) (E:Operand→AV) (op:BinOp) (t:TypeId) (x y:Operand) (z:TypeId) (h:AH) (K:AV→Prop):syLow P R E (.binOp op t x y z) h K=bnd (valOf (val? h (binA P h op t (E x) (E y)))) (fun v=>(∀g,valOf (val? g (binA P g op t (E x) (E y)))=some v)∧sameAV 20 v v=true∧K v) ⟨⟩:=rfl
theorem syLow_conv (R:Nat→Prop) (E:Operand→AV) (s d:TypeId) (x:Operand) (h:AH) (K:AV→Prop):syLow P R E (.convert s d x) h K=bnd (valOf (evConvert P h s d (E x))) (fun v=>(∀g,(∀id,R id→g.get id=h.get id)→valOf (evConvert P g s d (E x))=some v)∧sameAV 20 v v=true∧K v) ⟨⟩:=rfl
end
attribute [go_sem ↓] syGoK_nil syGoK_cons syDSK_none syDSK_some syLow_load syLow_lookup syLow_call syLow_bin syLow_conv
attribute [go_sem] clsK4_0 clsK4_1 clsK4_2 clsK4_3 ptrR_ptr mapR_map mapR_nil valOf_val
section
variable {P : Program} {S : Sums}
def syGoL (P:Program) (S:Sums) (R:Nat→Prop) (n:Nat) (ops:Array Oper) (base:Nat):List Oper→Nat→Env→AH→List (Nat×AO)→(Env→AH→Prop)→Prop
 | [],_,t,h,pend,K=>K t (absorb pend h)
 | [o],i,t,h,pend,K=>syDS P S n ops base i o t h pend fun t' h' pend'=>K t' (absorb pend' h')
 | o::o2::r,i,t,h,pend,K=>syDSK P S R n ops base i o t h pend fun t' h' pend'=>syGoL P S R n ops base (o2::r) (i+1) t' h' pend' K
theorem syGoL_one (R:Nat→Prop) (n:Nat) (ops:Array Oper) (base:Nat) (o:Oper) (i:Nat) (t:Env) (h:AH) (pend:List (Nat×AO)) (K:Env→AH→Prop):syGoL P S R n ops base [o] i t h pend K=syDS P S n ops base i o t h pend fun t' h' pend'=>K t' (absorb pend' h'):=rfl
theorem syGoL_cons (R:Nat→Prop) (n:Nat) (ops:Array Oper) (base:Nat) (o o2:Oper) (r:List Oper) (i:Nat) (t:Env) (h:AH) (pend:List (Nat×AO)) (K:Env→AH→Prop):syGoL P S R n ops base (o::o2::r) i t h pend K=syDSK P S R n ops base i o t h pend fun t' h' pend'=>syGoL P S R n ops base (o2::r) (i+1) t' h' pend' K:=rfl
end
attribute [go_sem ↓] syGoL_one syGoL_cons
section
variable {P : Program}
end
section
variable {P : Program}
theorem Ty.array_inv {h:AH} {t e:TypeId} {n:Nat} {l:List AV} (hu:P.underlying t=some (.array n e)) (hx:Ty P h t l):l.length=P.cellsOf t∧∀i,i<n→Ty P h e ((l.drop (i*P.cellsOf e)).take (P.cellsOf e)):=by
 cases hx with
 | array ht hc hf=>rw [hu] at ht;cases ht;exact ⟨hc,hf⟩
 | struct ht hc hf=>rw [hu] at ht;cases ht
 | bool b ht=>rw [hu] at ht;cases ht
 | int n ht hw=>rw [hu] at ht;cases ht
 | str s ht hs=>rw [hu] at ht;cases ht
 | nilsl ht=>rw [hu] at ht;cases ht
 | sl ht hg hl hc hcs=>rw [hu] at ht;cases ht
end
section
variable {P : Program}
def valS {α:Type}:List (List Nat×α)→List Nat→Option α
 | [],_=>none
 | e::r,k=>if e.1=k then some e.2 else valS r k
def updS {α:Type}:List (List Nat×α)→List Nat→α→List (List Nat×α)
 | [],k,v=>[(k,v)]
 | e::r,k,v=>if e.1=k then (k,v)::r else e::updS r k v
def delS {α:Type}:List (List Nat×α)→List Nat→List (List Nat×α)
 | [],_=>[]
 | e::r,k=>if e.1=k then r else e::delS r k
def onceS {α:Type}:List (List Nat×α)→Prop
 | []=>True
 | e::r=>valS r e.1=none∧onceS r
end
end Go.Abs
end